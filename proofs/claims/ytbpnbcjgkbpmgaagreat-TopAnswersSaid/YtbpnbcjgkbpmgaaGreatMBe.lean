/- A primary answers without waiting for the other site, as many times as its leash allows: of any acts. No condition. (part 31) -/
import Derived.Test.YtbpnbcjgkbpmgaaGreatMBd
namespace Go.Proofs.YtbpnbcjgkbpmgaaGreat
open Go.RowKit Go.Lg Ds St
set_option linter.unusedVariables false
set_option linter.unusedSimpArgs false
theorem cmc_drop : ∀ (l : List Cm) (k : Nat), (cmc l).drop (k * 3) = cmc (l.drop k)
  | l, 0 => by simp
  | [], k + 1 => by simp [cmc]
  | a :: l, k + 1 => by
    have := cmc_drop l k
    rw [show (k + 1) * 3 = k * 3 + 3 by omega]
    simpa [cmc] using this
theorem cmc_take : ∀ (l : List Cm) (k : Nat), (cmc l).take (k * 3) = cmc (l.take k)
  | l, 0 => by simp [cmc]
  | [], k + 1 => by simp [cmc]
  | a :: l, k + 1 => by
    have := cmc_take l k
    rw [show (k + 1) * 3 = k * 3 + 3 by omega]
    simpa [cmc] using this
theorem cs_sub {w : World} {B n c : Nat} {A : Option Addr} {ms : List Cm} (h : CS w B A n ms) {k j : Nat} (hk : k ≤ n) (hj : j ≤ n - k) (hc : n ≤ c) : CS w B (if c = k then A else A.map (·.add (k * 3))) j ((ms.drop k).take j) := by
  have h1 := h.1.drop (cap := c) hk hc
  rw [cmc_drop] at h1
  have h2 := h1.take hj
  rw [cmc_take] at h2
  refine ⟨h2, ?_, fun m hm => h.2.2 m (List.mem_of_mem_drop (List.mem_of_mem_take hm))⟩
  rw [List.length_take, List.length_drop, h.2.1]
  omega
structure Nx (w X : World) (mz : Nat) (cs : Array Value) : Prop where
  hz : w.heap.size < mz
  box : Blk X mz 147 cs
  res : Blk X w.heap.size 147 (msgc 0 0 0 0 nils 0 0 nils)
  bl : Below w.heap.size w X
theorem Nx.later {w X X' : World} {mz : Nat} {cs : Array Value} (h : Nx w X mz cs) (l : Lat X X') : Nx w X' mz cs := ⟨h.hz, l.blk h.box, l.blk h.res, h.bl.trans (l.b.mono h.bl.size)⟩
theorem Nx.keep {w X X' : World} {mz : Nat} {cs : Array Value} {F : Fp} (h : Nx w X mz cs) (m : Mod F X X') (hF : ∀ k, F k → mz < k) : Nx w X' mz cs := by
  have hz := h.hz
  exact ⟨hz, h.box.mod m (fun f => Nat.lt_irrefl _ (hF _ f)), h.res.mod m (fun f => by have := hF _ f; omega), h.bl.trans ⟨m.os, m.tape, m.output, m.size, fun k hk => m.block k (Nat.lt_of_lt_of_le hk h.bl.size) (fun f => by have := hF _ f; omega)⟩⟩
theorem Nx.set {w X : World} {mz : Nat} {cs : Array Value} (h : Nx w X mz cs) (i : Nat) (u : Value) : Nx w (X.setCell ⟨mz, i, none⟩ u) mz (cs.setIfInBounds i u) := by
  have hz := h.hz
  have m := mod_set X mz i u
  exact ⟨hz, h.box.set_ i u, h.res.mod m (by omega), h.bl.trans ⟨m.os, m.tape, m.output, m.size, fun k hk => m.block k (Nat.lt_of_lt_of_le hk h.bl.size) (by omega)⟩⟩
theorem Nx.csnoc {w X w8 : World} {mz n8 : Nat} {cs cs' : Array Value} {o : Obj} {v v8 : Value} {ms : List Cm} {m : Cm} (h : Nx w X mz cs) (hs : Cl X (fun k => mz < k) v ms) (ho : Sl X (fun k => mz < k) 77 3 (.slice m.A m.n m.c) m.n (opc m.os)) (hl : m.os.length = m.n)
    (hv : Sl w8 (fun k => mz < k ∨ (X.alloc o).heap.size ≤ k) 88 3 v8 n8 (cmc ms ++ [.int .i64 m.ep, .int .i64 m.num, .slice m.A m.n m.c])) (hn : n8 = ms.length + 1) (hg : (X.alloc o).grownBy w8 v.ownBlock) (hcs : cs.setIfInBounds 7 v8 = cs') :
    Blk w8 mz 147 cs ∧ Nx w (w8.setCell ⟨mz, 7, none⟩ v8) mz cs' ∧ Cl (w8.setCell ⟨mz, 7, none⟩ v8) (fun k => mz < k) v8 (ms ++ [m]) := by
  subst hn
  have m8 : Mod (fun k => mz < k) X w8 := (Mod.alloc _ X o).trans_ (Mod.grown hg fun g hg => (hs.row.lt g hg).1)
  have d8 := h.keep m8 fun k hk => hk
  have hmz := h.box.lt
  have hsz := (Lat.alloc (Lat.refl X) o).size
  refine ⟨d8.box, by rw [← hcs]; exact d8.set 7 v8, Cl.setz (cs := cs) ⟨?_, fun x hx => ?_⟩ d8.box (by decide) (by decide) 7 v8⟩
  · rw [cmc_snoc, List.length_append, List.length_singleton]
    exact hv.to fun k hk => by
      rcases hk with h1 | h1
      · exact h1
      · show mz < k
        omega
  · have hrow := hs.row.alloc o
    rcases List.mem_append.1 hx with hx | hx
    · have h1 := ((hs.ops x hx).1).alloc o
      exact ⟨h1.gb hg fun g h2 e => h1.ne_sl hrow (by decide) g h2 e.symm, (hs.ops x hx).2⟩
    · obtain rfl := List.mem_singleton.1 hx
      have h1 := ho.alloc o
      exact ⟨h1.gb hg fun g h2 e => h1.ne_sl hrow (by decide) g h2 e.symm, hl⟩
theorem nx_bl {X w3 wA w8 : World} {mz : Nat} {o : Obj} {row : Option Nat} (h : Below X.heap.size w3 wA) (hX : X.heap.size ≤ mz) (hA : X.heap.size ≤ wA.heap.size) (hg : (wA.alloc o).grownBy w8 row) (hr : ∀ g, row = some g → mz < g) (u : Value) : Below X.heap.size w3 (w8.setCell ⟨mz, 7, none⟩ u) := by
  have h1 : Below X.heap.size w3 w8 := h.trans (by
    have l := (Lat.refl wA).alloc o
    exact ⟨hg.os.trans l.b.os, hg.tape.trans l.b.tape, hg.output.trans l.b.output, Nat.le_trans l.size hg.size, fun k hk => (hg.block k (by have := l.size; omega) (fun e => by have := hr k e.symm; omega)).trans (l.b.block k (by omega))⟩)
  exact h1.setCell (p := ⟨mz, 7, none⟩) hX u
def pvOf (ms : List Cm) (kn : Nat) : Int := if kn = 0 then 0 else ((ms[kn - 1]?).map Cm.ep).getD 0
def NextIs (ep : Int) (kn : Nat) (ms : List Cm) (w : World) (e : Ending) (w' : World) : Prop :=
  ∃ v ms', e = .returned (.tuple #[.agg (msgc 2 ep 0 0 nils ((kn : Int) + 1) (pvOf ms kn) v), .int .i64 0]) ∧ ms'.map Cm.p = ((ms.map Cm.p).drop kn).take 4 ∧ Cl w' (fun k => w.heap.size ≤ k) v ms' ∧ Below w.heap.size w w'
set_option maxHeartbeats 4000000 in
set_option maxRecDepth 100000 in
theorem snext179 {w : World} {A : Option Addr} {n c kn : Nat} {ms : List Cm} (ep : Int) (hcs : CS w w.heap.size A n ms) (hc : n ≤ c) (hcm : c ≤ maxLen) (hcap : ∀ m ∈ ms, m.n ≤ m.c) (hfo : fol 0 0 0 ms = (0, 0)) (hn : n ≤ 10000) (e1 : 1 ≤ ep) (e2 : ep ≤ 1048576) (hall : ∀ m ∈ ms, m.ep ≤ ep) (hk : kn ≤ n) (hkn : ∀ m ∈ ms, m.n ≤ 1000000) :
    Calls Tryz.prog 179 #[.int .i64 ep, .slice A n c, .int .i64 (kn : Int)] w (NextIs ep kn ms w) := by
  obtain ⟨kr, lr⟩ := res_new w
  obtain ⟨X, hX⟩ : ∃ X, X = w.alloc (.cells (msgc 0 0 0 0 nils 0 0 nils) 147) := ⟨_, rfl⟩
  have hsz : X.heap.size = w.heap.size + 1 := by rw [hX]; simp
  rw [← hX] at kr lr
  have hcX := (hcs.keep lr.b).more lr.size
  have hwr := swrong215 (c := c) ep hcX hfo (by omega) e1 e2 hall
  have HKR := hid kr
  have HLR := hid lr
  have HCX := hid hcX
  have HFO := hid hfo
  have hk1 : (kn : Int) ≤ (n : Int) := by omega
  have hk2 : ((kn : Int) == 1048576) = false := by simp; omega
  have hw1 : IntKind.i64.wrap ((kn : Int) + 1) = (kn : Int) + 1 := IntWalk.i64_in _ (by omega)
  have hw4 : IntKind.i64.wrap ((kn : Int) + 4) = (kn : Int) + 4 := IntWalk.i64_in _ (by omega)
  clear kr lr hcX hcs hfo hall
  go_enter Tryz.func179, Tryz.ntmps179
  go_upto_region 1 with fail
  rw [← hX]
  clear hX
  go_upto_region 6 with ((go_at_call 215; (with_reducible refine hwr.mono ?_); rintro e' w1 ⟨rfl, hb1⟩; have HB1 := hid hb1; clear hb1))
  have hN := show Nx w (w1.alloc (.cells (msgc 2 ep 0 0 nils ((kn : Int) + 1) 0 nils) 147)) w1.heap.size (msgc 2 ep 0 0 nils ((kn : Int) + 1) 0 nils) from
    have l2 : Lat X (w1.alloc (.cells (msgc 2 ep 0 0 nils ((kn : Int) + 1) 0 nils) 147)) := (Lat.mk HB1.out).alloc _
    ⟨by have := HB1.out.size; omega, Blk.new _ _ _, l2.blk HKR.out, (HLR.out.trans l2).b⟩
  have hcw := HCX.out.keep ((Lat.mk HB1.out).alloc (.cells (msgc 2 ep 0 0 nils ((kn : Int) + 1) 0 nils) 147)).b
  have hmz : w.heap.size + 1 ≤ w1.heap.size := by have := HB1.out.size; omega
  go_upto_region 7 with fail
  obtain ⟨w2, hw2⟩ : ∃ w2, w2 = w1.alloc (.cells (msgc 2 ep 0 0 nils ((kn : Int) + 1) 0 nils) 147) := ⟨_, rfl⟩
  rw [← hw2] at hN hcw ⊢
  obtain ⟨mz, hmz'⟩ : ∃ mz, mz = w1.heap.size := ⟨_, rfl⟩
  rw [← hmz'] at hN hmz ⊢
  clear hw2 hmz' HB1
  have hf6 : w2.frozen? ⟨mz, 6, none⟩ = false := hN.box.frozen 6
  have hc6 : w2.cell? ⟨mz, 6, none⟩ = some (.int .i64 0) := hN.box.cell 6
  have HNX := hid hN
  have HCW := hid hcw
  clear hN hcw
  obtain ⟨w3, hw3⟩ : ∃ w3 : World, w3 = (if kn = 0 then w2 else w2.setCell ⟨mz, 6, none⟩ (.int .i64 (pvOf ms kn))) := ⟨_, rfl⟩
  have hN3 : Nx w w3 mz (msgc 2 ep 0 0 nils ((kn : Int) + 1) (pvOf ms kn) nils) ∧ CS w3 X.heap.size A n ms := by
    by_cases h0 : kn = 0
    · rw [if_pos h0] at hw3
      subst hw3
      rw [show pvOf ms kn = 0 from if_pos h0]
      exact ⟨HNX.out, HCW.out⟩
    · rw [if_neg h0] at hw3
      subst hw3
      exact ⟨HNX.out.set 6 (.int .i64 (pvOf ms kn)), HCW.out.keep ((Below.refl X.heap.size w2).setCell (p := ⟨mz, 6, none⟩) (by show X.heap.size ≤ mz; omega) _)⟩
  have HN3 := hid hN3.1
  have HC3 := hid hN3.2
  have HW3 := hid hw3
  clear hN3 hw3
  by_cases h0 : kn = 0
  all_goals first
    | (have hz0 : kn = 0 := h0; have h0' : ¬(0 : Int) < (kn : Int) := (by omega); have hw3 := HW3.out; rw [if_pos h0] at hw3; go_upto_region 9 with fail; rw [← hw3]; clear HW3 h0 hw3 h0' hz0)
    | (have h0' : (0 : Int) < (kn : Int) := (by omega); have hw3 := HW3.out; rw [if_neg h0] at hw3; obtain ⟨b, off, ep', num, A1, n1, k1, os, rfl, hbB, hm, hos, hn1, x0, x1, x2⟩ := HCW.out.at_ (j := kn - 1) (by omega); have hpv : pvOf ms kn = ep' := (by unfold pvOf; rw [if_neg h0, hm]; rfl); rw [hpv] at hw3; have hwn : IntKind.i64.wrap ((kn : Int) - 1) = ((kn - 1 : Nat) : Int) := (by rw [IntWalk.i64_in _ (by omega)]; omega); have hn2 : ((kn - 1 : Nat) : Int) < (n : Int) := (by omega); have hn3 : (0 : Int) ≤ ((kn - 1 : Nat) : Int) := (by omega); clear hm hos; go_upto_region 9 with fail; rw [← hw3]; clear HW3 h0 hw3 h0' hpv x0 x1 x2 hwn hn2 hn3)
  all_goals
    clear HNX HCW hf6 hc6
    go_upto_region 10 with fail
  all_goals
    have hS := cs_sub (k := kn) (j := min (n - kn) 4) HC3.out hk (by omega) hc
    first
      | rw [if_pos h] at hS
      | (rw [if_neg h] at hS; first | rw [show Option.map (fun x : Addr => x.add (kn * 3)) (some ⟨b, off, none⟩) = some ⟨b, off + kn * 3, none⟩ from by simp [Addr.add_lit]] at hS | skip)
      | (rw [if_neg (by omega)] at hS; first | rw [show Option.map (fun x : Addr => x.add (kn * 3)) (some ⟨b, off, none⟩) = some ⟨b, off + kn * 3, none⟩ from by simp [Addr.add_lit]] at hS | skip)
    obtain ⟨n2, hn2⟩ : ∃ n2, n2 = min (n - kn) 4 := ⟨_, rfl⟩
    rw [← hn2] at hS
    first
      | rw [show ((kn : Int) + 4).toNat - kn = n2 by omega]
      | rw [show n - kn = n2 by omega]
    obtain ⟨ss, hss⟩ : ∃ ss, ss = (ms.drop kn).take n2 := ⟨_, rfl⟩
    have hss4 : (ms.drop kn).take 4 = ss := by
      rw [hss, hn2, ← HC3.out.2.1]
      rcases Nat.le_total (ms.length - kn) 4 with h4 | h4
      · rw [Nat.min_eq_left h4, List.take_of_length_le (by rw [List.length_drop]; exact h4), List.take_of_length_le (by rw [List.length_drop]; exact Nat.le_refl _)]
      · rw [Nat.min_eq_right h4]
    rw [← hss] at hS
    have HS := hid hS
    have HS4 := hid hss4
    have hcapS : ∀ m ∈ ss, m.n ≤ m.c := fun m hm => hcap m (List.mem_of_mem_drop (List.mem_of_mem_take (by rw [hss] at hm; exact hm)))
    have hn4 : n2 ≤ 4 := by omega
    have HCP := hid hcapS
    have hknS : ∀ m ∈ ss, m.n ≤ 1000000 := fun m hm => hkn m (List.mem_of_mem_drop (List.mem_of_mem_take (by rw [hss] at hm; exact hm)))
    have HKN := hid hknS
    have hXm : X.heap.size ≤ mz := by omega
    clear hS hss hss4 hcapS hknS hn2 HC3 hwr HKR HCX HFO
    go_loopg [54] n2 (fun g i wr => ∃ (j : Nat) (vC : Value) (ms' : List Cm), j ≤ n2 ∧ g = n2 - j ∧ i = .int .i64 j ∧ Hid (Nx w wr mz (msgc 2 ep 0 0 nils ((kn : Int) + 1) (pvOf ms kn) vC)) ∧ Hid (Cl wr (fun k => mz < k) vC ms') ∧ Hid (ms'.map Cm.p = (ss.map Cm.p).take j ∧ ms'.length = j) ∧ Hid (Below X.heap.size w3 wr))
    case atStart => exact ⟨0, nils, [], by omega, rfl, rfl, HN3, hid (Cl.nil_ _ _), hid ⟨by simp, rfl⟩, hid (Below.refl _ _)⟩
    case round =>
      obtain ⟨j, vC, ms', hj, rfl, rfl, hd, hs, hms, hbl⟩ := hrel
      obtain ⟨A4, c4, hv4, _, _⟩ := cl_len hs.out
      rw [hms.out.2] at hv4
      subst hv4
      by_cases hlt : j < n2
      · obtain ⟨b', off', ep', num, A1, n1, k1, os, hA, hbB, hm, hos, hn1, x0, x1, x2⟩ := (HS.out.keep hbl.out).at_ hlt
        rw [hA]
        have hji : (j : Int) < (n2 : Int) := by omega
        have hk1' : n1 ≤ k1 := HCP.out _ (List.mem_of_getElem? hm)
        have hn1' : n1 ≤ 1000000 := by
          have h0 := HKN.out _ (List.mem_of_getElem? hm)
          exact h0
        have lX : Lat wr (wr.alloc (.cells (cmcs ep' num A1 n1 k1) 88)) := (Lat.refl wr).alloc _
        obtain ⟨Y, hY⟩ : ∃ Y, Y = wr.alloc (.cells (cmcs ep' num A1 n1 k1) 88) := ⟨_, rfl⟩
        have kY := Blk.new wr 88 (cmcs ep' num A1 n1 k1)
        rw [← hY] at lX kY
        have hN9 := hd.out.later lX
        have hmr := hd.out.box.lt
        have hXr : X.heap.size ≤ wr.heap.size := by omega
        have hYm : mz < Y.heap.size := Nat.lt_of_lt_of_le hmr lX.size
        have hCA : ∀ Z, Lat Y Z → Calls Tryz.prog 91 #[.agg #[.int .i64 ep', .int .i64 num, .slice A1 n1 k1]] Z fun e w' => ∃ A' c', e = .returned (cmv ep' num A' n1 c') ∧ Sl w' (fun k => mz < k) 77 3 (.slice A' n1 c') n1 (opc os) ∧ Lat Y w' := fun Z lz =>
          (copy91 (w := Z) (ep := ep') (num := num) (c := k1) ((hos.keep ((lX.trans lz).b.mono hXr)).more (Nat.le_trans hXr (lX.trans lz).size)) hn1' hk1').mono fun e w' ⟨A', c', he, ho, hb⟩ => ⟨A', c', he, Sl.of_own ho fun g hg => Nat.lt_of_lt_of_le hYm (Nat.le_trans lz.size (ho.lt g hg).1), lz.below hb⟩
        have HCA := hid hCA
        have HN9 := hid hN9
        have HSY := hid (hs.out.later lX.b)
        have HOL := hid hos.2
        have HM := hid hm
        have HBY := hid (hbl.out.trans (lX.b.mono hXr))
        have y4 : Y.cell? ⟨mz, 7, none⟩ = some (.slice A4 j c4) := hN9.box.cell 7
        have y0 : Y.cell? ⟨wr.heap.size, 0, none⟩ = some (.int .i64 ep') := kY.cell 0
        have y1 : Y.cell? ⟨wr.heap.size, 1, none⟩ = some (.int .i64 num) := kY.cell 1
        have y2 : Y.cell? ⟨wr.heap.size, 2, none⟩ = some (.slice A1 n1 k1) := kY.cell 2
        clear hN9 hCA hm hos lX kY
        go_upto_region 12 with fail
        rw [← hY]
        clear hY
        go_region_law
          (first
          | (refine step_appS (c := 1) T46 (.tmp 59) (.tmp 62) rfl (by rfl) (HROW.out.alloc (.cells (cmcs ep' num AA n1 cA) 88)) (by go_simp) (RdF.lit wA (cmcs ep' num AA n1 cA) 88 1 3 rfl) (by go_simp) (by simp [Value.oneCell']) (by omega) ?_; intro v8 w8 hv8 hg8 hat8; obtain ⟨A8, c8, rfl, _, _⟩ := hv8.slice_; obtain ⟨k8, hd8, hs8⟩ := HNA.out.csnoc (m := ⟨ep', num, AA, n1, cA, os⟩) (cs' := msgc 2 ep 0 0 nils ((kn : Int) + 1) (pvOf ms kn) (.slice A8 (j + 1) c8)) HSA.out HOA.out HOL.out hv8 (by rw [hms.out.2]) hg8 rfl; have y8 : w8.cell? ⟨mz, 7, none⟩ = some (.slice A4 j c4) := k8.cell 7; have g8 : w8.frozen? ⟨mz, 7, none⟩ = false := k8.frozen 7; have HD8 := hid hd8; have HS8 := hid hs8; have HB8 := hid (nx_bl (o := .cells (cmcs ep' num AA n1 cA) 88) (HBY.out.trans (HLA.out.b.mono HXY.out)) hXm (Nat.le_trans HXY.out HLA.out.size) hg8 (fun g hg => (HROW.out.lt g hg).1) (.slice A8 (j + 1) c8)); clear hd8 hs8 k8 hv8 hg8 hat8)
          | (go_simp; go_at_call 91; (with_reducible refine (HCA.out _ (by repeat (first | exact Lat.refl _ | refine Lat.drew ?_ | refine Lat.drewN ?_ _))).mono ?_); rintro e' wA ⟨AA, cA, rfl, hoA, lA⟩; have hnA := HN9.out.later lA; have yA : wA.cell? ⟨mz, 7, none⟩ = some (.slice A4 j c4) := hnA.box.cell 7; have yC : (wA.alloc (.cells (cmcs ep' num AA n1 cA) 88)).cell? ⟨mz, 7, none⟩ = some (.slice A4 j c4) := (hnA.box.alloc _).cell 7; have HNA := hid hnA; have HOA := hid hoA; have HLA := hid lA; have HXY : Hid (X.heap.size ≤ Y.heap.size) := hid (by omega); have HSA := hid (HSY.out.later lA.b); have HROW : Hid (Sl wA (fun k => mz < k) 88 3 (.slice A4 j c4) j (cmc ms')) := hid (by have := HSA.out.row; rwa [hms.out.2] at this); clear hnA hoA lA))
        all_goals
          obtain ⟨W9, hW9⟩ : ∃ W9, W9 = w8.setCell ⟨mz, 7, none⟩ (.slice A8 (j + 1) c8) := ⟨_, rfl⟩
          rw [← hW9] at HD8 HS8 HB8 ⊢
          clear hW9 y8 g8
          go_wp2_with fail
          rw [← hA]
          go_roundg (n2 - (j + 1))
          case measure => omega
          case rel =>
            refine ⟨j + 1, _, _, by omega, rfl, by go_num, HD8, HS8, hid ⟨?_, ?_⟩, HB8⟩
            · rw [List.map_append, hms.out.1, take_succ_get? (show (ss.map Cm.p)[j]? = some ⟨ep', num, os⟩ by rw [List.getElem?_map, HM.out]; rfl)]; rfl
            · rw [List.length_append, hms.out.2]; rfl
      · obtain rfl : j = n2 := by omega
        have hN5 := hd.out
        obtain ⟨q0, q1, q2, q3, q4, q5, q6, q7⟩ := mcells hN5.res
        obtain ⟨f0, f1, f2, f3, f4, f5, f6, f7⟩ := mfroz hN5.res
        obtain ⟨c0, c1, c2, c3, c4', c5, c6, c7⟩ := mcells hN5.box
        obtain ⟨hk', hb, hm⟩ := res_set 2 ep 0 0 ((kn : Int) + 1) (pvOf ms kn) nils (.slice A4 j c4) hN5.res hN5.bl
        obtain ⟨p0, p1, p2, p3, p4, p5, p6, p7⟩ := mcells hk'
        have HBB := hid hb
        have HS6 := hid ((hs.out.mv (hm.mv fun k a b => by have h1 : mz < k := a; have h2 : k = w.heap.size := b; omega)).to (G := fun k => w.heap.size ≤ k) fun k a => by have h1 : mz < k := a; show w.heap.size ≤ k; omega)
        have hfin : ms'.map Cm.p = ((ms.map Cm.p).drop kn).take 4 := by
          rw [← List.map_drop, ← List.map_take, HS4.out, hms.out.1, List.take_of_length_le (by rw [List.length_map]; have := HS.out.2.1; omega)]
        have HF := hid hfin
        clear hN5 hk' hb hm hfin
        go_wp2_with fail
        refine bodyPost_ret (by simp [results, Tryz.results179, go_sem, p0, p1, p2, p3, p4, p5, p6, p7]; try rfl) rfl ?_
        exact ⟨_, ms', rfl, HF.out, HS6.out, HBB.out⟩
end Go.Proofs.YtbpnbcjgkbpmgaaGreat
namespace Go.Proofs.YtbpnbcjgkbpmgaaGreat
open Go.RowKit Go.Lg Ds St
set_option linter.unusedVariables false
set_option linter.unusedSimpArgs false
def knw (k ro en kn : Int) : Int × Bool := if k = 3 ∨ k = 1 ∧ ro = 2 then (max (max kn 0) en, true) else (max kn 0, false)
theorem kn_eq {a b : Int} {q : Bool} (h : a = b) : Ending.returned (.tuple #[.int .i64 a, .bool q, .int .i64 0]) = Ending.returned (.tuple #[.int .i64 b, .bool q, .int .i64 0]) := by rw [h]
set_option maxHeartbeats 4000000 in
set_option maxRecDepth 100000 in
theorem known133 {w : World} (k ep ro en fr pv kn : Int) (vS vC : Value) (h : Mok w w.heap.size (msgc k ep ro en vS fr pv vC)) :
    Calls Tryz.prog 133 #[.int .i64 ep, .int .i64 kn, .agg (msgc k ep ro en vS fr pv vC)] w fun e w' => e = .returned (.tuple #[.int .i64 (knw k ro en kn).1, .bool (knw k ro en kn).2, .int .i64 0]) ∧ Below w.heap.size w w' := by
  obtain ⟨W, hW⟩ : ∃ W, W = w.alloc (.cells (msgc k ep ro en vS fr pv vC) 147) := ⟨_, rfl⟩
  have lW : Lat w W := by rw [hW]; exact (Lat.refl w).alloc _
  have kW : Blk W w.heap.size 147 (msgc k ep ro en vS fr pv vC) := by rw [hW]; exact Blk.new _ _ _
  have hch := lcheck121 ((h.keep lW.b).more lW.size)
  obtain ⟨c0, c1, c2, c3, c4, c5, c6, c7⟩ := mcells kW
  have HL := hid lW
  have HK := hid kW
  clear lW kW h
  go_enter Tryz.func133, Tryz.ntmps133
  go_upto_region 1 with fail
  rw [← hW]
  clear hW
  go_wp2_with ((go_at_call 121; refine stop_ (fun Ps hPs => ?_)))
  refine hPs ?_
  clear hPs Ps c0 c1 c2 c3 c4 c5 c6 c7
  refine hch.mono ?_
  rintro e' w1 ⟨rfl, hb1⟩
  obtain ⟨c0, c1, c2, c3, c4, c5, c6, c7⟩ := mcells (HK.out.later hb1)
  have HB := hid (HL.out.below hb1).b
  clear hb1 hch
  by_cases h3 : k = 3
  · subst h3
    go_wp2_with fail
    all_goals
      go_ret3
      refine ⟨?_, HB.out⟩
      rw [show knw 3 ro en kn = (max (max kn 0) en, true) from if_pos (.inl rfl)]
      refine kn_eq ?_
      simp only
      omega
  · by_cases h1 : k = 1
    · subst h1
      by_cases h2 : ro = 2
      · subst h2
        go_wp2_with fail
        all_goals
          go_ret3
          refine ⟨?_, HB.out⟩
          rw [show knw 1 2 en kn = (max (max kn 0) en, true) from if_pos (.inr ⟨rfl, rfl⟩)]
          refine kn_eq ?_
          simp only
          omega
      · go_wp2_with fail
        all_goals try omega
        all_goals
          go_ret3
          refine ⟨?_, HB.out⟩
          rw [show knw 1 ro en kn = (max kn 0, false) from if_neg (by omega)]
          refine kn_eq ?_
          simp only
          omega
    · go_wp2_with fail
      all_goals try omega
      all_goals
        go_ret3
        refine ⟨?_, HB.out⟩
        rw [show knw k ro en kn = (max kn 0, false) from if_neg (by omega)]
        refine kn_eq ?_
        simp only
        omega
end Go.Proofs.YtbpnbcjgkbpmgaaGreat
namespace Go.Proofs.YtbpnbcjgkbpmgaaGreat
open Go.RowKit Go.Lg Ds St
set_option linter.unusedVariables false
set_option linter.unusedSimpArgs false
def Fits (ms ns : List Cm) (fr : Nat) (pv : Int) : Prop := (1 < fr → ∃ m, ms[fr - 2]? = some m ∧ m.ep = pv) ∧ ∀ x ∈ ns, 1 ≤ x.num ∧ x.num ≤ 2000000 ∧ (x.num ≤ ms.length → ∃ m, ms[(x.num - 1).toNat]? = some m ∧ m.ep = x.ep)
set_option maxHeartbeats 4000000 in
set_option maxRecDepth 100000 in
theorem fits171 {w : World} {A A2 : Option Addr} {n c n2 c2 fr : Nat} {ms ns : List Cm} (ep pv : Int) (hcs : CS w w.heap.size A n ms) (hns : CS w w.heap.size A2 n2 ns) (hn : n ≤ 100000) (hn2 : n2 ≤ 4) (f1 : 1 ≤ fr) (f2 : fr ≤ 1048576) (hf : Fits ms ns fr pv) :
    Calls Tryz.prog 171 #[.slice A n c, .agg (msgc 2 ep 0 0 nils fr pv (.slice A2 n2 c2))] w (Yea w) := by
  obtain ⟨W, hW⟩ : ∃ W, W = w.alloc (.cells (msgc 2 ep 0 0 nils fr pv (.slice A2 n2 c2)) 147) := ⟨_, rfl⟩
  have lW : Lat w W := by rw [hW]; exact (Lat.refl w).alloc _
  have kW : Blk W w.heap.size 147 (msgc 2 ep 0 0 nils fr pv (.slice A2 n2 c2)) := by rw [hW]; exact Blk.new _ _ _
  obtain ⟨c0, c1, c2', c3, c4, c5, c6, c7⟩ := mcells kW
  have hml := hcs.2.1
  have HCS := hid (hcs.keep lW.b)
  have HNS := hid (hns.keep lW.b)
  have HL := hid lW
  have HK := hid kW
  have HF := hid hf
  have HML := hid hml
  clear lW kW hcs hns hf hml
  go_enter Tryz.func171, Tryz.ntmps171
  go_upto_region 1 with fail
  rw [← hW]
  clear hW
  by_cases hfr : 1 < fr
  case' pos =>
    obtain ⟨m, hm, hmp⟩ := HF.out.1 hfr
    have hj : fr - 2 < n := by have := (List.getElem?_eq_some_iff.1 hm).1; have := HML.out; omega
    obtain ⟨b, off, ep', num, A1, n1, k1, os, rfl, hbB, hm2, hos, hn1, x0, x1, x2⟩ := HCS.out.at_ hj
    rw [hm] at hm2
    injection hm2 with hm2
    subst hm2
    simp only at hmp
    subst hmp
    have hd : decide ((1 : Int) < (fr : Int)) = true := by simp; omega
    have hw1 : IntKind.i64.wrap ((fr : Int) - 2) = ((fr - 2 : Nat) : Int) := by rw [IntWalk.i64_in _ (by omega)]; omega
    have hw2 : ((fr - 2 : Nat) : Int) < (n : Int) := by omega
    have hw3 : (0 : Int) ≤ ((fr - 2 : Nat) : Int) := by omega
    clear hm hos
  case' neg =>
    have hd : decide ((1 : Int) < (fr : Int)) = false := by simp; omega
  all_goals
    go_quiet (fail)
    obtain ⟨w5, hw5⟩ : ∃ w5, w5 = W.drewN nq := ⟨_, rfl⟩
    have l5 : Lat W w5 := by rw [hw5]; exact (Lat.refl W).drewN _
    rw [← hw5]
    have c7 : w5.cell? ⟨w.heap.size, 7, none⟩ = some (.slice A2 n2 c2) := (l5.blk HK.out).cell 7
    have HL5 := hid l5
    clear hw5 hd l5
    go_upto_region 4 with fail
    go_loopg [25] n2 (fun g i wr => ∃ (j : Nat), j ≤ n2 ∧ g = n2 - j ∧ i = .int .i64 j ∧ Hid (Lat W wr))
    case atStart => exact ⟨0, by omega, rfl, rfl, HL5⟩
    case round =>
      obtain ⟨j, hj, rfl, rfl, hd⟩ := hrel
      by_cases hlt : j < n2
      · obtain ⟨b', off', ep9, num9, A9, n9, k9, os9, hA, hbB', hm, hos, hn9, x0', x1', x2'⟩ := (HNS.out.keep (hd.out.b.mono HL.out.size)).at_ hlt
        obtain ⟨f1', f2', f3'⟩ := HF.out.2 _ (List.mem_of_getElem? hm)
        simp only at f1' f2' f3'
        rw [hA]
        have hji : (j : Int) < (n2 : Int) := by omega
        have kY := Blk.new wr 88 #[.int .i64 ep9, .int .i64 num9, .slice A9 n9 k9]
        have lY : Lat W (wr.alloc (.cells #[.int .i64 ep9, .int .i64 num9, .slice A9 n9 k9] 88)) := hd.out.alloc _
        obtain ⟨Y, hY⟩ : ∃ Y, Y = wr.alloc (.cells #[.int .i64 ep9, .int .i64 num9, .slice A9 n9 k9] 88) := ⟨_, rfl⟩
        rw [← hY] at kY lY
        have y0 : Y.cell? ⟨wr.heap.size, 0, none⟩ = some (.int .i64 ep9) := kY.cell 0
        have y1 : Y.cell? ⟨wr.heap.size, 1, none⟩ = some (.int .i64 num9) := kY.cell 1
        have y2 : Y.cell? ⟨wr.heap.size, 2, none⟩ = some (.slice A9 n9 k9) := kY.cell 2
        have HLY := hid lY
        go_upto_region 6 with fail
        rw [← hY]
        clear hY lY kY x0' x1' x2' hm hos
        by_cases hle : num9 ≤ (n : Int)
        case' pos =>
          obtain ⟨m, hm, hme⟩ := f3' (by have := HML.out; omega)
          obtain ⟨jn, hjn⟩ : ∃ jn : Nat, (jn : Int) = num9 - 1 := ⟨(num9 - 1).toNat, by omega⟩
          rw [show (num9 - 1).toNat = jn by omega] at hm
          have hj2 : jn < n := by omega
          obtain ⟨b2, off2, ep2, num2, A4, n4, k4, os4, hA2, hb2, hm2, hos2, hn4, z0, z1, z2⟩ := (HCS.out.keep (HLY.out.b.mono HL.out.size)).at_ hj2
          rw [hm] at hm2
          injection hm2 with hm2
          subst hm2
          simp only at hme
          subst hme
          first | (injection hA2 with hA2; injection hA2 with hA2 hA3; subst hA2 hA3) | subst hA2
          have hd2 : decide (num9 ≤ (n : Int)) = true := by simp; omega
          have hw4 : IntKind.i64.wrap (num9 - 1) = (jn : Int) := by rw [IntWalk.i64_in _ (by omega)]; omega
          have hw5 : (jn : Int) < (n : Int) := by omega
          have hw6 : (0 : Int) ≤ (jn : Int) := by omega
          clear hm hos2 f3' hjn
        case' neg =>
          have hd2 : decide (num9 ≤ (n : Int)) = false := by simp; omega
        all_goals
          go_quiet (fail)
          go_wp2_with fail
          first | rw [← hA] | skip
          go_roundg (n2 - (j + 1))
          case measure => omega
          case rel => exact ⟨j + 1, by omega, rfl, by go_num, hid (HLY.out.drewN _)⟩
      · obtain rfl : j = n2 := by omega
        go_wp2_with fail
        go_ret
        exact ⟨rfl, (HL.out.trans hd.out).b⟩
end Go.Proofs.YtbpnbcjgkbpmgaaGreat
