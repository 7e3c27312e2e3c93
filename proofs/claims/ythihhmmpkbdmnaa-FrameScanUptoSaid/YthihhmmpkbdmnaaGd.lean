/- Any bytes are cut into records as the document says, all at once or one by one: the walk. -/
import Derived.Test.YthihhmmpkbdmnaaGc
import Derived.Test.YthihhmmpkbdmnaaLives9
import Derived.Test.YthihhmmpkbdmnaaApartF
namespace Go.Proofs.Ythihhmmpkbdmnaa
open Go.RowKit Go.Lg Go.Shelf
set_option linter.unusedVariables false
set_option linter.unusedSimpArgs false
attribute [local go_sem] Oper.semAt_some

theorem rd_full {w : World} {B f m : Nat} {b : List UInt8} (hm : b.length = m) (h : Rd w B 1 (some ⟨f, 0, none⟩) (m + 3) (bts (lent b))) : Rd w B 1 (some ⟨f, 0, none⟩) m (bts b) := by
  have h1 := h.take (k := m) (by omega)
  rw [Nat.mul_one, bts_take] at h1
  have e : (lent b).take m = b := by rw [lent, ← hm]; simp
  rw [e] at h1
  exact h1
set_option maxHeartbeats 800000 in
set_option maxRecDepth 100000 in
theorem pick24 (x : Int) (n : Nat) (h1 : 0 < n) (h2 : n ≤ 100000000) (hx : -9223372036854775808 ≤ x ∧ x ≤ 9223372036854775807) (w : World) : Calls Try.prog 24 #[.int .i64 x, .int .i64 n] w fun e w' => ∃ r : Nat, e = .returned (.int .i64 r) ∧ r < n ∧ w' = w := by
  have hlt : x.tmod n < n := Int.tmod_lt_of_pos x (by omega)
  have hgt : -(n : Int) < x.tmod n := by
    have h := Int.tmod_lt_of_pos (-x) (show (0 : Int) < n by omega)
    rw [Int.neg_tmod] at h
    omega
  obtain ⟨m, hm⟩ : ∃ m, x.tmod n = m := ⟨_, rfl⟩
  rw [hm] at hlt hgt
  have hn : ¬(n : Int) = 0 := by omega
  have hw : wrap64 (m + n) = m + n := by simp only [wrap64]; omega
  have hw2 : wrap64 m = m := by simp only [wrap64]; omega
  go_enter Try.func24, Try.ntmps24
  go_wp2_with fail
  all_goals
    go_ret
    first
    | exact ⟨m.toNat, rd_int (by omega), by omega, rfl⟩
    | exact ⟨(m + n).toNat, rd_int (by omega), by omega, rfl⟩
theorem name_tmps {g : Operand} {ps : Array Tmp} {assign body : Code} {F : Fence} {n : Nat} {P : Program} {Q : Exit → Act → World → Prop} {T0 : Array Value} {d : List Deferred} {W : World} (h : ∀ T, T = T0 → (Code.rangeFunc g ps assign body).wpIn F n P Q { tmps := T, defers := d } W) :
    (Code.rangeFunc g ps assign body).wpIn F n P Q { tmps := T0, defers := d } W := h _ rfl
/-- A loop's own count, and nothing else that lay. -/
def KI (w1 : World) (K k : Nat) (W : World) : Prop := Boxed W K 3 (.int .i64 (k : Int)) ∧ Below w1.heap.size w1 W
theorem ki_own {α : Type} {w1 : World} {K B : Nat} (f : α → Nat) (hB : w1.heap.size ≤ B) : OwnFrom B (fun s W => KI w1 K (f s) W) :=
  OwnFrom.and (Own.from (boxed_own K 3 (fun s => Value.int .i64 (f s : Int))) _) (ownFrom_below (Nat.le_refl _) hB)
theorem KI.count {w1 W W' : World} {K k : Nat} (h : KI w1 K k W) (hb : Below W.heap.size W W') (hK : w1.heap.size ≤ K) (k' : Nat) : KI w1 K k' (W'.setCell ⟨K, 0, none⟩ (.int .i64 (k' : Int))) :=
  ⟨Boxed.set (W := W') (v := .int .i64 (k : Int)) _ ((show Blk W K 3 #[_] from h.1).later hb), (h.2.trans (hb.mono h.2.size)).setCell (p := ⟨K, 0, none⟩) hK _⟩
theorem keeps_below {W W' : World} (h : Below W.heap.size W W') : KeepsOthers W W' := ⟨h.size, fun k o hk ho => (h.block k (Array.getElem?_eq_some_iff.1 hk).1).trans hk⟩
theorem wpList_app1_g {P : Program} {t e : TypeId} {sz by_ : Nat} (T : SlT P t e sz by_) {w : World} {ops : Array Oper} {rest : List Oper} {o : Oper} {a : Act} {Q : Exit → Act → World → Prop} (s x : Operand)
    (hgd : Region.wanted o (yielded ops a.tmps) = true) (ho : o.op = .call { callee := .builtin .append, args := #[s, x], argTypes := #[t, t] })
    {base : Nat} {v : Value} {n : Nat} {xs : List Value} (hown : w.ownsRow base e sz v n xs) (hs : a.eval s = v)
    {cs : Array Value} {c : Nat} (hcs : cs.size = sz) (hx : a.eval x = .slice (some ⟨w.heap.size, 0, none⟩) 1 c) (h1 : ∀ u ∈ cs.toList, u.oneCell' = true)
    (hbytes : (n + 1) * by_ ≤ 140737488355328) (hbase : base ≤ w.heap.size)
    (h : ∀ v' w', w'.ownsRow base e sz v' (n + 1) (xs ++ cs.toList) → w.grownBy w' v.ownBlock → (v'.ownBlock = v.ownBlock ∨ v'.ownBlock = some (w.heap.size + 1)) → wpList P ops Q rest (a.put o.dst v') w') : wpList P ops Q (o :: rest) a (w.alloc (.cells cs e)) := by
  obtain ⟨i, z, hi, hz, hs1, hs2, hs3⟩ := T.hi
  have hle : n + 1 ≤ (n + 1) * by_ := Nat.le_mul_of_pos_right _ T.hby
  unfold wpList
  rw [if_pos hgd]
  exact .inl (wp_append_any (w.alloc (.cells cs e)) s x t ho base e i z sz by_ T.ht hi hz hs1 hs2 hs3 T.hsz v n xs hs (hown.alloc _) _ _ 1 c _ hx (Rd.lit w cs e (0, 0) 1 (by omega)) h1 (by unfold maxLen; omega) hbytes (by simp; omega)
    fun v' w' h2 h3 h4 => h v' w' h2 (grownBy_after_alloc h3) (by simpa using h4))
theorem pair_at {vs : List Value} (h : vs.Pairwise fun a b => ∀ g, a.ownBlock = some g → b.ownBlock ≠ some g) {i j : Nat} {x y : Value} (hij : i < j) (hx : vs[i]? = some x) (hy : vs[j]? = some y) : ∀ g, x.ownBlock = some g → y.ownBlock ≠ some g := by
  obtain ⟨h1, rfl⟩ := List.getElem?_eq_some_iff.1 hx
  obtain ⟨h2, rfl⟩ := List.getElem?_eq_some_iff.1 hy
  exact List.pairwise_iff_getElem.1 h i j h1 h2 hij
theorem own_def {α : Type} {B D : Nat} (h : D < B) : OwnFrom B (fun (_ : α) (W : World) => W.heap[D]? = some (.deferred (some []))) := fun s X Y row hs hg hr => by
  have hlt : D < X.heap.size := (Array.getElem?_eq_some_iff.1 hs).1
  exact (hg.block D hlt (fun e => by have := (hr D e.symm).1; omega)).trans hs
theorem OwnFrom.or {α : Type} {B : Nat} {I J : α → World → Prop} (h : OwnFrom B I) (k : OwnFrom B J) : OwnFrom B (fun s W => I s W ∨ J s W) := fun s X Y row hs hg hr => hs.imp (fun a => h s X Y row a hg hr) (fun a => k s X Y row a hg hr)
/-- A record has come that is not the next. -/
def Off (ns : List (Nat × List UInt8)) (pre : List El) : Prop := ∃ ini x, pre = ini ++ [x] ∧ ns[ini.length]? ≠ some x.p
theorem off_not {ns : List (Nat × List UInt8)} {pre : List El} {k : Nat} (h : Off ns pre) (hp : pre.map El.p = ns.take k) : False := by
  obtain ⟨ini, x, rfl, h2⟩ := h
  refine h2 ?_
  have h3 : (ns.take k)[ini.length]? = some x.p := by rw [← hp]; simp
  rw [List.getElem?_take] at h3
  split at h3
  · exact h3
  · cases h3
theorem eql53 (Bs : Nat) (w : World) : Sem.run Try.prog (binOp BinOp.eql 53 (Value.func (Fn.func 44) #[] #[Value.pointer (some ⟨Bs, 0, none⟩)]) Value.nilFunc) w = .ok (.bool false) w := by kernel_rfl
theorem below_putD {w W : World} {n : Nat} (h : Below n w W) {D : Nat} (hD : n ≤ D) (hK : W.heap[D]? = some (.deferred (some []))) : Below n w (W.putObj D (.deferred none)) :=
  h.trans ((Below.refl n W).grown (grownBy_putObj' W D _) (by have := (Array.getElem?_eq_some_iff.1 hK).1; omega) (fun k e => by cases e; omega))
set_option maxRecDepth 100000 in
set_option maxHeartbeats 4000000 in
theorem scan12 (A : Option Addr) (n c : Nat) (l : List UInt8) (w : World) (h : Rd w w.heap.size 1 A n (bts l)) (hn : n ≤ 1048576) (hc : n ≤ c) (hcm : c ≤ maxLen) (st : Int) (hst : -9223372036854775808 ≤ st ∧ st ≤ 9223372036854775807) :
    Calls Try.prog 12 #[.slice A n c, .int .i64 st] w fun e w' => e = .returned (.bool true) ∧ Below w.heap.size w w' := by
  refine (callsIn_wide (n := 3)).1 ?_
  have hro : Fence.wide.round = none := rfl
  have h1 : 1 ≤ 3 := by omega
  have hl : l.length = n := by have := h.1; rw [bts_length] at this; omega
  obtain ⟨B, hB⟩ : ∃ B, B = w.heap.size := ⟨_, rfl⟩
  have HB := hid hB
  obtain ⟨w', hw'⟩ : ∃ w', w' = w.alloc (.cells #[.bool false] 4) := ⟨_, rfl⟩
  have hr0 : Boxed w' B 4 (.bool false) := by rw [hw', hB]; exact Boxed.new w 4 _
  have hb0 : Below w.heap.size w w' := by rw [hw']; exact (Below.refl _ w).alloc (Nat.le_refl _) _
  have hsz : w'.heap.size = B + 1 := by rw [hw', hB]; simp
  rw [← hB] at hb0 h ⊢
  have HR0 := hid (And.intro hr0 (And.intro hb0 hsz))
  have HA := hid (And.intro h (And.intro hc (And.intro hcm hl)))
  have HST := hid hst
  have HLT := hid (lent_any A n c l w' ((h.below hb0).more (by omega)) (by omega))
  clear h hc hcm hl hst hr0 hb0
  refine callsIn_of_wp_marks Try.func12 rfl trivial ?_ hro
  simp only [Try.ntmps12, List.size_toArray, List.length_cons, List.length_nil, Nat.reduceAdd, Nat.reduceSub, Array.replicate_succ, Array.replicate_zero, List.push_toArray, List.append_toArray, List.nil_append, List.cons_append]
  refine wpIn_wide.2 ?_
  go_wp2_with (go_at_call 13; refine stop_ (fun Ps hPs => ?_))
  refine hPs ?_
  clear hPs Ps
  rw [← hB, ← hw']
  clear hB hw' hsz
  refine HLT.out.mono ?_
  clear HLT
  rintro e w1 ⟨v, rfl, hv, hb1⟩
  have hll : (lent l).length = n + 3 := by have := HA.out.2.2.2; simp [lent, spare]; omega
  rw [hll] at hv
  obtain ⟨f, cap, rfl⟩ : ∃ f cap, v = .slice (some ⟨f, 0, none⟩) (n + 3) cap := by
    rcases owned_form0 hv with ⟨_, h9⟩ | h9
    · omega
    · exact h9
  have hcap := owned_cap hv
  have s1 := hb1.size
  have hR1 := (show Blk w' B 4 #[_] from HR0.out.1).later hb1
  have hB1 := HR0.out.2.1.trans (hb1.mono (by have := HR0.out.2.2; omega))
  have hf1 := (hv.lt f rfl)
  have HV1 := hid (And.intro hv (And.intro hf1 hcap))
  have H1 := hid (And.intro (show Boxed w1 B 4 (.bool false) from hR1) (And.intro hB1 (show B + 1 ≤ w1.heap.size by have := HR0.out.2.2; omega)))
  have HS := hid (fScan_any (some ⟨f, 0, none⟩) n cap l w1 (rd_full HA.out.2.2.2 (Rd.of_own hv)) (by omega) (by omega) hcap.2)
  have i1 : n ≤ cap := by omega
  have i2 : (n : Int) ≤ (cap : Int) := by omega
  have i3 : (0 : Int) ≤ (n : Int) := by omega
  clear hv hb1 hll s1 hR1 hB1 hf1 hcap
  go_wp2_with (go_at_call 29; refine stop_ (fun Ps hPs => ?_))
  refine hPs ?_
  clear hPs Ps
  refine HS.out.mono ?_
  clear HS
  rintro e w2 ⟨v2, vs2, rfl, hr2, hb2⟩
  obtain ⟨A2, c2, rfl, _, _⟩ := owned_slice hr2.out
  have HS := hid (rScan_any A n c l w2 (((HA.out.1.below H1.out.2.1).below (hb2.mono (by have := H1.out.2.2; omega))).more (by have := hb2.size; have := H1.out.2.2; omega)) (by omega) HA.out.2.1 HA.out.2.2.1)
  have H2 := hid (And.intro hr2 hb2)
  clear hr2 hb2
  go_wp2_with (go_at_call 35; refine stop_ (fun Ps hPs => ?_))
  refine hPs ?_
  clear hPs Ps
  refine HS.out.mono ?_
  clear HS
  rintro e w3 ⟨v3, vs3, rfl, hr3, hb3⟩
  obtain ⟨A3, c3, rfl, _, _⟩ := owned_slice hr3.out
  obtain ⟨rs, hrs⟩ : ∃ rs, rs = (Vi.scan l).1 := ⟨_, rfl⟩
  obtain ⟨m, hm⟩ : ∃ m, m = rs.length := ⟨_, rfl⟩
  obtain ⟨en, hen⟩ : ∃ en, en = (Vi.scan l).2 := ⟨_, rfl⟩
  have hsq : (Vi.sq 0 l).map (·.2) = rs := by rw [hrs]; exact Vi.sq_scan _ 0 l (Nat.lt_succ_self _)
  have hsm : (Vi.sq 0 l).length = m := by rw [hm, ← hsq]; simp
  have hmn : m ≤ n := by have h9 := Vi.sq_len _ 0 l (Nat.lt_succ_self _); rw [hsm] at h9; have := HA.out.2.2.2; omega
  have hr2 := H2.out.1
  have hb2 := H2.out.2
  rw [← hrs] at hr2 hr3 ⊢
  rw [← hm] at hr2 hr3 ⊢
  rw [← hen]
  have HM := hid (And.intro hsq (And.intro hsm (And.intro hmn hm)))
  have b34 : Below w3.heap.size w3 (w3.alloc (.cells #[.slice A3 m c3] 30)) := (Below.refl _ _).alloc (Nat.le_refl _) _
  have k8 : Boxed (w3.alloc (.cells #[.slice A3 m c3] 30)) w3.heap.size 30 (.slice A3 m c3) := Boxed.new w3 30 _
  obtain ⟨w4, hw4⟩ : ∃ w4, w4 = w3.alloc (.cells #[.slice A3 m c3] 30) := ⟨_, rfl⟩
  rw [← hw4] at b34 k8
  have s4 : w4.heap.size = w3.heap.size + 1 := by rw [hw4]; simp
  have HLV := hid (lives9_any w4)
  have H4 := hid (And.intro hr2 (And.intro hb2 (And.intro hr3 (And.intro hb3 (And.intro b34 (And.intro k8 s4))))))
  clear hr2 hb2 hr3 hb3 b34 k8 s4 H2 hrs hm hen hsq hsm
  go_wp2_with (go_at_call 31; refine stop_ (fun Ps hPs => ?_))
  refine hPs ?_
  clear hPs Ps
  rw [← hw4]
  clear hw4
  refine HLV.out.mono ?_
  clear HLV
  rintro e w5 ⟨rfl, hb5⟩
  have k5 : Boxed w5 w3.heap.size 30 (.slice A3 m c3) := (show Blk w4 _ 30 #[_] from H4.out.2.2.2.2.2.1).later hb5
  have b35 := H4.out.2.2.2.2.1.trans (hb5.mono H4.out.2.2.2.2.1.size)
  have r3 := H4.out.2.2.1.later b35
  have b25 := H4.out.2.2.2.1.trans (b35.mono H4.out.2.2.2.1.size)
  have r2 := H4.out.1.later b25
  have hrec := records_any A2 A3 m c2 m c3 _ _ vs2 vs3 rs rs w5 r2.reads.2 r3.reads.2 (by omega) (by omega)
  rw [decide_eq_true (rfl : rs = rs)] at hrec
  have HREC := hid hrec
  have H5 := hid (And.intro r2 (And.intro r3 (And.intro k5 (And.intro b25 b35))))
  have c8 := k5.cell
  have hne : ((en : Int) != (en : Int)) = false := by simp
  clear hrec r2 r3 k5 b35 b25 hb5
  go_wp2_with (go_at_call 34; refine stop_ (fun Ps hPs => ?_))
  refine hPs ?_
  clear hPs Ps
  refine HREC.out.mono ?_
  clear HREC c8
  rintro e w6 ⟨rfl, d6, hd6⟩
  have hb6 : Below w5.heap.size w5 w6 := by rw [hd6]; exact below_drewN (Below.refl _ _) d6
  have k6 : Boxed w6 w3.heap.size 30 (.slice A3 m c3) := (show Blk w5 _ 30 #[_] from H5.out.2.2.1).later hb6
  have b16 : Below w1.heap.size w1 w6 := H4.out.2.1.trans ((H5.out.2.2.2.1.trans (hb6.mono H5.out.2.2.2.1.size)).mono H4.out.2.1.size)
  have hHB := H1.out.2.2
  have bB6 := H1.out.2.1.trans (b16.mono (show B ≤ w1.heap.size by omega))
  have HP := hid (places36 A n c l w6 ((HA.out.1.below bB6).more (by have := b16.size; omega)) (by omega) HA.out.2.1 HA.out.2.2.1)
  have H6 := hid (And.intro (H5.out.1.later hb6) (And.intro (H5.out.2.1.later hb6) (And.intro k6 (And.intro b16 bB6))))
  clear hd6 hb6 k6 b16 bB6 hHB H5 H4
  go_wp2_with (go_at_call 36; refine stop_ (fun Ps hPs => ?_))
  refine hPs ?_
  clear hPs Ps
  refine HP.out.mono ?_
  clear HP
  rintro e w7 ⟨Ap, cp, rfl, hp7, hb7⟩
  rw [HM.out.2.1] at hp7 ⊢
  have k7 : Boxed w7 w3.heap.size 30 (.slice A3 m c3) := (show Blk w6 _ 30 #[_] from H6.out.2.2.1).later hb7
  have H7 := hid (And.intro (H6.out.1.later hb7) (And.intro (H6.out.2.1.later hb7) (And.intro k7 (And.intro hp7 (And.intro (H6.out.2.2.2.1.trans (hb7.mono H6.out.2.2.2.1.size)) (H6.out.2.2.2.2.trans (hb7.mono (by have := H6.out.2.2.2.1.size; have := H1.out.2.2; omega))))))))
  have c8 : (w7.alloc (.cells #[.slice Ap m cp] 37)).cell? ⟨w3.heap.size, 0, none⟩ = some (.slice A3 m c3) := (k7.alloc _).cell
  clear k7 hp7 hb7 H6
  by_cases hm0 : m = 0
  · obtain rfl : m = 0 := hm0
    obtain ⟨w9, hw9⟩ : ∃ w9, (w7.alloc (.cells #[.slice Ap 0 cp] 37)).alloc (.cells #[.int .i64 0] 3) = w9 := ⟨_, rfl⟩
    have b79 : Below w7.heap.size w7 w9 := by rw [← hw9]; exact ((Below.refl _ _).alloc (Nat.le_refl _) _).alloc (by simp) _
    have k10 : Boxed w9 w7.heap.size 37 (.slice Ap 0 cp) := by rw [← hw9]; exact (Boxed.new w7 37 _).alloc _
    have k11 : Boxed w9 (w7.heap.size + 1) 3 (.int .i64 0) := by
      have h9 := Boxed.new (w7.alloc (.cells #[.slice Ap 0 cp] 37)) 3 (.int .i64 0)
      rw [World.size_alloc, hw9] at h9
      exact h9
    have hfull := owned_later HV1.out.1 (H7.out.2.2.2.2.1.trans (b79.mono H7.out.2.2.2.2.1.size))
    have HE := hid (each37 (some ⟨f, 0, none⟩) n cap l w9 (rd_full HA.out.2.2.2 (Rd.of_own hfull)) (by omega))
    have H9 := hid (And.intro b79 (And.intro k10 (And.intro k11 hfull)))
    clear b79 k10 k11 hfull
    have HW9 := hid hw9
    clear hw9
    go_wp2_with (go_at_call 37; refine stop_ (fun Ps hPs => ?_))
    refine hPs ?_
    clear hPs Ps c8
    try rw [HW9.out]
    clear HW9
    refine HE.out.mono ?_
    clear HE
    rintro e w1' ⟨Bo, A1, cap1, rfl, hBo1, hBo2, hBo3, hrd, hlc, hcm1, hb10⟩
    rw [HA.out.2.2.2] at hBo3 hrd hlc
    have hrun := eql53 Bo
    have b7 : Below w7.heap.size w7 w1' := H9.out.1.trans (hb10.mono H9.out.1.size)
    have k8' : Boxed w1' w3.heap.size 30 (.slice A3 0 c3) := (show Blk w7 _ 30 #[_] from H7.out.2.2.1).later b7
    have k10' : Boxed w1' w7.heap.size 37 (.slice Ap 0 cp) := (show Blk w9 _ 37 #[_] from H9.out.2.1).later hb10
    have k11' : Boxed w1' (w7.heap.size + 1) 3 (.int .i64 0) := (show Blk w9 _ 3 #[_] from H9.out.2.2.1).later hb10
    have kR' : Boxed w1' B 4 (.bool false) := (show Blk w1 B 4 #[_] from H1.out.1).later (H7.out.2.2.2.2.1.trans (b7.mono H7.out.2.2.2.2.1.size))
    have HX := hid (And.intro k8' (And.intro k10' (And.intro k11' kR')))
    have HY := hid (And.intro (H7.out.2.1.later b7) (And.intro (owned_later H7.out.2.2.2.1 b7) (And.intro (owned_later H9.out.2.2.2 hb10) (H7.out.1.later b7))))
    have HZ := hid (And.intro (show Bo < w1'.heap.size from hBo2) (And.intro hBo3 (And.intro hrd (And.intro hlc hcm1))))
    have HBB := hid (H7.out.2.2.2.2.2.trans (b7.mono (by have h9 := H7.out.2.2.2.2.1.size; have h8 := H1.out.2.2; omega)))
    have HW1 := hid (show w1.heap.size ≤ w1'.heap.size by have h9 := H7.out.2.2.2.2.1.size; have h8 := b7.size; omega)
    have HSZ := hid (And.intro (show B < w1'.heap.size from kR'.lt) (And.intro k8'.lt (And.intro k10'.lt k11'.lt)))
    clear hBo1 hBo2 hBo3 hrd hlc hcm1 hb10 b7 k8' k10' k11' kR' H9 H7
    go_wp2_with fail
    refine (wpIn_wide (n := 3)).1 ?_
    refine wpIn_loop_rounds 3 ?_
    rw [roundsIn_succ]
    refine wpIn_wide.2 ?_
    go_wp2_with fail
    have ki1 : KI w1' w1'.heap.size 0 (w1'.alloc (.cells #[.int .i64 0] 3)) := ⟨Boxed.new w1' 3 (.int .i64 ((0 : Nat) : Int)), (Below.refl _ w1').alloc (Nat.le_refl _) _⟩
    have hsX1 : (w1'.alloc (.cells #[.int .i64 0] 3)).heap.size = w1'.heap.size + 1 := by simp
    obtain ⟨X1, hX1⟩ : ∃ X, w1'.alloc (.cells #[.int .i64 0] 3) = X := ⟨_, rfl⟩
    rw [hX1] at ki1 hsX1 ⊢
    clear hX1
    refine (wpIn_wide (n := 3)).1 ?_
    refine name_tmps (fun T hT => ?_)
    have HT := hid hT
    clear hT
    refine range_hands hro h1 (gf := 44) (lb := #[.pointer (some ⟨Bo, 0, none⟩)]) (by have hT := HT.out; subst hT; rfl) trivial (enters_of Try.func44 (by kernel_rfl) rfl)
      (each_hands 2 (by omega) Bo w1'.heap.size n cap1 A1 l HA.out.2.2.2.symm (by omega) X1 HZ.out.1 (by omega) ((ki1.2.cell (p := ⟨Bo, 0, none⟩) HZ.out.1).trans HZ.out.2.1) (HZ.out.2.2.1.below ki1.2) HZ.out.2.2.2.1 HZ.out.2.2.2.2) belowK_t (belowK_b (by omega)) (fun _ => rfl)
      (fun pre W => (KI w1' w1'.heap.size pre.length W ∧ pre = []))
      (fun c' pre W => False)
      ((OwnFrom.and (ki_own _ (by omega)) (ownFrom_pure _ (fun pre : List El => pre = []))))
      (fun _ _ _ _ _ hs _ _ => hs)
      (fun x => rx_own _ x)
      ⟨ki1, rfl⟩
      (fun x => { tmps := (((T.setIfInBounds 67 (.int .i64 (x.at_ : Int))).setIfInBounds 68 x.v).setIfInBounds 15 (.int .i64 (x.at_ : Int))).setIfInBounds 16 x.v, defers := [] })
      ?assign1 ?body1 ?done1 ?stop1
    case assign1 =>
      intro l x W K hK
      have hT := HT.out
      subst hT
      simp only [List.setIfInBounds_toArray, List.set_cons_succ, List.set_cons_zero] at hK
      gi_wp2
      exact hK
    case body1 =>
      rintro l9 pre x W ⟨ki, hl⟩ hx hlt
      have := HM.out.2.1
      omega
    case stop1 =>
      rintro D c' pre W _ _ h _
      exact h.elim
    case done1 =>
      rintro D1 ys Wq hD hys ⟨ki, hl⟩ hK
      have hT := HT.out
      subst hT
      have hl0 : ys = [] := hl
      rw [hl0] at ki
      have cK : Wq.cell? ⟨w1'.heap.size, 0, none⟩ = some (.int .i64 0) := ki.1.cell
      have e11 : Wq.cell? ⟨w7.heap.size + 1, 0, none⟩ = some (.int .i64 0) := (ki.2.cell (p := ⟨w7.heap.size + 1, 0, none⟩) HSZ.out.2.2.2).trans HX.out.2.2.1.cell
      clear hl hl0 hys
      have HKI1 := hid ki
      have HK1 := hid hK
      have hD1 := hD
      clear ki hK
      go_wp2_with fail
      rw [roundsIn_succ]
      refine wpIn_wide.2 ?_
      go_wp2_with fail
      have ki2 : KI w1' Wq.heap.size 0 (Wq.alloc (.cells #[.int .i64 0] 3)) := ⟨Boxed.new Wq 3 (.int .i64 ((0 : Nat) : Int)), HKI1.out.2.alloc HKI1.out.2.size _⟩
      have hd2 : (Wq.alloc (.cells #[.int .i64 0] 3)).heap[D1]? = some (.deferred (some [])) := by rw [Below.heap_alloc _ _ _ (Array.getElem?_eq_some_iff.1 HK1.out).1]; exact HK1.out
      have hsX2 : (Wq.alloc (.cells #[.int .i64 0] 3)).heap.size = Wq.heap.size + 1 := by simp
      obtain ⟨X2, hX2⟩ : ∃ X, Wq.alloc (.cells #[.int .i64 0] 3) = X := ⟨_, rfl⟩
      rw [hX2] at ki2 hsX2 hd2 ⊢
      clear hX2
      have hDs : D1 < Wq.heap.size := (Array.getElem?_eq_some_iff.1 HK1.out).1
      have hWs : w1'.heap.size ≤ Wq.heap.size := HKI1.out.2.size
      refine (wpIn_wide (n := 3)).1 ?_
      refine name_tmps (fun T hT => ?_)
      have HT := hid hT
      clear hT
      refine range_hands hro h1 (gf := 44) (lb := #[.pointer (some ⟨Bo, 0, none⟩)]) (by have hT := HT.out; subst hT; rfl) trivial (enters_of Try.func44 (by kernel_rfl) rfl)
        (each_hands 2 (by omega) Bo w1'.heap.size n cap1 A1 l HA.out.2.2.2.symm (by omega) X2 HZ.out.1 (by omega) ((ki2.2.cell (p := ⟨Bo, 0, none⟩) HZ.out.1).trans HZ.out.2.1) (HZ.out.2.2.1.below ki2.2) HZ.out.2.2.2.1 HZ.out.2.2.2.2) belowK_t (belowK_b (by omega)) (fun _ => rfl)
        (fun pre W => (KI w1' Wq.heap.size pre.length W ∧ pre = []) ∧ W.heap[D1]? = some (.deferred (some [])))
        (fun c' pre W => False)
        (OwnFrom.and (OwnFrom.and (ki_own _ (by omega)) (ownFrom_pure _ (fun pre : List El => pre = []))) (own_def (by omega)))
        (fun _ _ _ _ _ hs _ _ => hs)
        (fun x => rx_own _ x)
        ⟨⟨ki2, rfl⟩, hd2⟩
        (fun x => { tmps := (((T.setIfInBounds 67 (.int .i64 (x.at_ : Int))).setIfInBounds 68 x.v).setIfInBounds 15 (.int .i64 (x.at_ : Int))).setIfInBounds 16 x.v, defers := [] })
        ?assign2 ?body2 ?done2 ?stop2
      case assign2 =>
        intro l x W K hK
        have hT := HT.out
        subst hT
        simp only [List.setIfInBounds_toArray, List.set_cons_succ, List.set_cons_zero] at hK
        gi_wp2
        exact hK
      case body2 =>
        rintro l9 pre x W ⟨⟨ki, hl⟩, hd⟩ hx hlt
        have := HM.out.2.1
        omega
      case stop2 =>
        rintro D c' pre W _ _ h _
        exact h.elim
      case done2 =>
        rintro D2 ys Wr hD hys ⟨⟨ki, hl⟩, hK1⟩ hK
        have hT := HT.out
        subst hT
        have hl0 : ys = [] := hl
        rw [hl0] at ki
        have cK : Wr.cell? ⟨Wq.heap.size, 0, none⟩ = some (.int .i64 0) := ki.1.cell
        have e11 : Wr.cell? ⟨w7.heap.size + 1, 0, none⟩ = some (.int .i64 0) := (ki.2.cell (p := ⟨w7.heap.size + 1, 0, none⟩) HSZ.out.2.2.2).trans HX.out.2.2.1.cell
        clear hl hl0 hys
        have HKI2 := hid ki
        have HK2 := hid hK
        have HK1b := hid hK1
        clear ki hK hK1
        go_wp2_with fail
        rw [roundsIn_succ]
        refine wpIn_wide.2 ?_
        have b9 := HKI2.out.2
        have hfull := owned_later HY.out.2.2.1 b9
        have bBr : Below B w1' Wr := b9.mono (by have := HSZ.out.1; omega)
        have hkp := kept_any (some ⟨f, 0, none⟩) A (n + 3) cap n c (lent l) l Wr (Rd.of_own hfull) (((HA.out.1.below HBB.out).below bBr).more (by have := b9.size; have := HSZ.out.1; omega)) (by omega) (by omega)
        rw [decide_eq_true (rfl : lent l = lent l)] at hkp
        have HKP := hid hkp
        have HF := hid (And.intro hfull (And.intro (HY.out.2.2.2.later b9) (And.intro b9 (HBB.out.trans bBr))))
        clear hkp hfull bBr b9 e11
        go_wp2_with (go_at_call 20; refine stop_ (fun Ps hPs => ?_))
        refine hPs ?_
        clear hPs Ps
        refine HKP.out.mono ?_
        clear HKP
        rintro e W5 ⟨rfl, hb5⟩
        have hfull := owned_later HF.out.1 hb5
        have hrec := HF.out.2.1.later hb5
        have hro2 := hrec.out
        rw [← HM.out.2.2.2] at hro2
        have HO := hid hro2
        have H5 := hid (And.intro hfull (And.intro hrec hb5))
        have hsw : w1.heap.size ≤ W5.heap.size := by have := (H1.out.2.2); have := HF.out.2.2.1.size; have := hb5.size; have := HW1.out; omega
        clear hfull hrec hro2 hb5
        go_wp2_with (at_builtin; refine stop_ (fun Ps hPs => ?_))
        refine hPs ?_
        clear hPs Ps
        refine wpList_app1_g T30 (.tmp 102) (.tmp 104) (by first | rfl | (simp [Region.wanted, yielded])) rfl HO.out rfl (cs := #[.slice (some ⟨f, 0, none⟩) (n + 3) cap]) rfl rfl (by simp [Value.oneCell']) (by have := HM.out.2.2.1; omega) hsw fun v6 w6 hv6 hg6 hat6 => ?_
        obtain ⟨A6, c6, rfl, _, _⟩ := owned_slice hv6
        have hmrs := HM.out.2.2.2
        have hfb : ∀ b0 n0 v0 xs0, W5.ownsRow b0 5 1 v0 n0 xs0 → w6.ownsRow b0 5 1 v0 n0 xs0 := fun b0 n0 v0 xs0 h9 => owned_gb h9 hg6 fun g h1 h2 => ne_by_type h9 HO.out (by decide) g h1 h2.symm
        have hwl : w'.heap.size ≤ w1.heap.size := by have h9 := HV1.out.2.1; omega
        have hfown := hfb _ _ _ _ H5.out.1
        have hll : (lent l).length = n + 3 := by have := HA.out.2.2.2; simp [lent, spare]; omega
        have hvl : vs2.length = 0 := by rw [H5.out.2.1.len]; exact hmrs.symm
        have hvs : ∀ v, v ∈ vs2 ++ [.slice (some ⟨f, 0, none⟩) (n + 3) cap] → ∃ b0 n0 xs0, w6.ownsRow b0 5 1 v n0 xs0 := fun v hv => by
          rcases List.mem_append.1 hv with hv | hv
          · obtain ⟨k, hk⟩ := List.getElem?_of_mem hv
            obtain ⟨x, hx⟩ : ∃ x, rs[k]? = some x := ⟨rs[k]'(by rw [← H5.out.2.1.len]; exact (List.getElem?_eq_some_iff.1 hk).1), List.getElem?_eq_getElem _⟩
            exact ⟨_, _, _, hfb _ _ _ _ (H5.out.2.1.each k v x hk hx)⟩
          · rw [List.mem_singleton.1 hv]
            exact ⟨_, _, _, hfown⟩
        have HVS := hid hvs
        have hap := apart_oth w'.heap.size (0 + 1) c6 A6 (vs2 ++ [.slice (some ⟨f, 0, none⟩) (n + 3) cap]) (rs ++ [lent l]) w6 (Rd.of_own hv6) (by have := HM.out.2.2.1; omega) (by rw [List.length_append, ← hmrs]; rfl)
          (fun x hx => by
            rcases List.mem_append.1 hx with hx | hx
            · have := H5.out.2.1.short x hx; omega
            · rw [List.mem_singleton.1 hx, hll]; omega)
          (fun i v x hv hx => by
            rcases Nat.lt_or_ge i 0 with hi | hi
            · rw [List.getElem?_append_left (by omega)] at hv hx
              exact owned_less (hfb _ _ _ _ (H5.out.2.1.each i v x hv hx)) hwl
            · rw [List.getElem?_append_right (by omega)] at hv hx
              have hi0 : i = 0 := by
                rcases Nat.eq_or_lt_of_le hi with h9 | h9
                · exact h9.symm
                · rw [List.getElem?_eq_none (by simp; omega)] at hv; cases hv
              rw [hi0, hvl] at hv
              rw [hi0, ← hmrs] at hx
              simp at hv hx
              subst hv hx
              rw [hll]
              exact hfown)
          (fun i j vi vj hi hj hij g hg hg2 => by
            have key : ∀ (k : Nat) v, (vs2 ++ [.slice (some ⟨f, 0, none⟩) (n + 3) cap])[k]? = some v → (k < 0 ∧ vs2[k]? = some v) ∨ (k = 0 ∧ v = .slice (some ⟨f, 0, none⟩) (n + 3) cap) := fun k v hv => by
              rcases Nat.lt_or_ge k 0 with hk | hk
              · rw [List.getElem?_append_left (by omega)] at hv
                exact .inl ⟨hk, hv⟩
              · rw [List.getElem?_append_right (by omega)] at hv
                have hk0 : k = 0 := by
                  rcases Nat.eq_or_lt_of_le hk with h9 | h9
                  · exact h9.symm
                  · rw [List.getElem?_eq_none (by simp; omega)] at hv; cases hv
                rw [hk0, hvl] at hv
                simp at hv
                exact .inr ⟨hk0, hv.symm⟩
            have far : ∀ (k : Nat) v, vs2[k]? = some v → ∀ g, v.ownBlock = some g → g ≠ f := fun k v hv g hg => by
              obtain ⟨x, hx⟩ : ∃ x, rs[k]? = some x := ⟨rs[k]'(by rw [← H5.out.2.1.len]; exact (List.getElem?_eq_some_iff.1 hv).1), List.getElem?_eq_getElem _⟩
              have h8 := ((H5.out.2.1.each k v x hv hx).lt g hg).1
              have h9 := HV1.out.2.1
              omega
            rcases key i vi hi with ⟨_, hi⟩ | ⟨hi0, rfl⟩
            · rcases key j vj hj with ⟨_, hj⟩ | ⟨hj0, rfl⟩
              · rcases Nat.lt_or_gt_of_ne hij with h9 | h9
                · exact pair_at H5.out.2.1.apart h9 hi hj g hg hg2
                · exact pair_at H5.out.2.1.apart h9 hj hi g hg2 hg
              · exact far i vi hi g hg (by simpa [Value.ownBlock] using hg2.symm)
            · rcases key j vj hj with ⟨_, hj⟩ | ⟨hj0, rfl⟩
              · exact far j vj hj g hg2 (by simpa [Value.ownBlock] using hg.symm)
              · omega)
          (fun b off e v hv hg => by
            have ho : ∃ b0 n0 xs0, w6.ownsRow b0 5 1 v n0 xs0 := by
              rcases List.mem_append.1 hv with hv | hv
              · obtain ⟨k, hk⟩ := List.getElem?_of_mem hv
                obtain ⟨x, hx⟩ : ∃ x, rs[k]? = some x := ⟨rs[k]'(by rw [← H5.out.2.1.len]; exact (List.getElem?_eq_some_iff.1 hk).1), List.getElem?_eq_getElem _⟩
                exact ⟨_, _, _, hfb _ _ _ _ (H5.out.2.1.each k v x hk hx)⟩
              · rw [List.mem_singleton.1 hv]
                exact ⟨_, _, _, hfown⟩
            obtain ⟨b0, n0, xs0, ho⟩ := ho
            exact ne_by_type ho hv6 (by decide) b hg (by rw [e]; rfl))
          (by have := hg6.size; omega)
        have HAP := hid hap
        have hB6 : Below (B + 1) w1' w6 := by
          have h9 : Below (B + 1) w1' W5 := (HF.out.2.2.1.mono (by have := HSZ.out.1; omega)).trans (H5.out.2.2.mono (by have := HSZ.out.1; have := HF.out.2.2.1.size; omega))
          exact h9.grown hg6 (by have := HSZ.out.1; have := HF.out.2.2.1.size; have := H5.out.2.2.size; omega) (fun g hg => by have := (HO.out.lt g hg).1; have := H1.out.2.2; omega)
        have HB6 := hid hB6
        clear hap hB6 hfb hwl hfown hll hvl hmrs hv6 hat6 hvs
        go_wp2_with (go_at_call 21; refine stop_ (fun Ps hPs => ?_))
        refine hPs ?_
        clear hPs Ps
        refine HAP.out.mono ?_
        clear HAP
        rintro e W7 ⟨rfl, hb7, hoth⟩
        have hkeep : ∀ D : Nat, Wr.heap[D]? = some (.deferred (some [])) → W7.heap[D]? = some (.deferred (some [])) := fun D hD => by
          have h5 : W5.heap[D]? = some (.deferred (some [])) := (H5.out.2.2.block D (Array.getElem?_eq_some_iff.1 hD).1).trans hD
          have hlt5 := (Array.getElem?_eq_some_iff.1 h5).1
          have h6 : w6.heap[D]? = some (.deferred (some [])) := (hg6.block D hlt5 (fun e9 => by
            rcases HO.out.2 with ⟨h9, _⟩ | ⟨g, cp9, cur, h9, _, h4, _⟩
            · rw [h9] at e9
              simp [Value.ownBlock] at e9
            · rw [h9] at e9
              simp [Value.ownBlock] at e9
              rw [← e9, h5] at h4
              cases h4)).trans h5
          refine (hoth D (Array.getElem?_eq_some_iff.1 h6).1 (fun v hv e9 => ?_)).trans h6
          obtain ⟨b0, n0, xs0, ho⟩ := HVS.out v hv
          rcases ho.2 with ⟨h9, _⟩ | ⟨g, cp9, cur, h9, _, h4, _⟩
          · rw [h9] at e9
            simp [Value.ownBlock] at e9
          · rw [h9] at e9
            simp [Value.ownBlock] at e9
            rw [e9, h6] at h4
            cases h4
        have HK7 := hid (And.intro (hkeep D1 HK1b.out) (hkeep D2 HK2.out))
        clear hkeep hoth
        have hb17 : Below (B + 1) w1' W7 := HB6.out.trans (hb7.mono (by have := HV1.out.2.1; have := HR0.out.2.2; omega))
        have kR7 : Boxed W7 B 4 (.bool false) := (show Blk w1' B 4 #[_] from HX.out.2.2.2).below hb17 (by omega)
        have cR7 := kR7.cell
        have fR7 := kR7.frozen
        have HQ := hid (And.intro hb17 kR7)
        clear hb17 kR7
        go_wp2_with fail
        have hK2s := (KeepsOthers.setCell W7 ⟨B, 0, none⟩ (.bool true)).same D2 _ HK7.out.2 rfl
        have hK1s := (KeepsOthers.setCell W7 ⟨B, 0, none⟩ (.bool true)).same D1 _ HK7.out.1 rfl
        have hDne : D1 ≠ D2 := by omega
        have hK1p : ((W7.setCell ⟨B, 0, none⟩ (.bool true)).putObj D2 (.deferred none)).heap[D1]? = some (.deferred (some [])) := by rw [World.putObj_heap_other hDne]; exact hK1s
        refine ⟨by simp, .inl ⟨_, _, rfl, run_takeDeferred hK2s, ⟨by simp, .inl ⟨_, _, rfl, run_takeDeferred hK1p, ?_⟩⟩⟩⟩
        have hbx := HQ.out.2.set (.bool true)
        have q1 := cell_kept hbx.cell (grownBy_putObj' _ D2 (.deferred none)) (fun r e => by cases e; exact ⟨_, hK2s, rfl⟩)
        have q2 := cell_kept q1 (grownBy_putObj' _ D1 (.deferred none)) (fun r e => by cases e; exact ⟨_, hK1p, rfl⟩)
        have hBD1 : B ≤ D1 := by have := HSZ.out.1; omega
        have hBD2 : B ≤ D2 := by have := HSZ.out.1; omega
        refine ⟨_, ?_, rfl, below_putD (below_putD ((HBB.out.trans (HQ.out.1.mono (by omega))).setCell (p := ⟨B, 0, none⟩) (Nat.le_refl _) _) hBD2 hK2s) hBD1 hK1p⟩
        simp [results, Try.results12, Try.f12, go_sem, q2]
  · have hmi : (0 : Int) < (m : Int) := by omega
    have HPK := fun W => hid (pick24 st m (by omega) (by omega) HST.out W)
    go_wp2_with (go_at_call 24; refine stop_ (fun Ps hPs => ?_))
    refine hPs ?_
    clear hPs Ps c8
    refine (HPK _).out.mono ?_
    rintro e w8 ⟨r, rfl, hr, rfl⟩
    clear HPK
    obtain ⟨w9, hw9⟩ : ∃ w9, (w7.alloc (.cells #[.slice Ap m cp] 37)).alloc (.cells #[.int .i64 (1 + (r : Int))] 3) = w9 := ⟨_, rfl⟩
    have b79 : Below w7.heap.size w7 w9 := by rw [← hw9]; exact ((Below.refl _ _).alloc (Nat.le_refl _) _).alloc (by simp) _
    have k10 : Boxed w9 w7.heap.size 37 (.slice Ap m cp) := by rw [← hw9]; exact (Boxed.new w7 37 _).alloc _
    have k11 : Boxed w9 (w7.heap.size + 1) 3 (.int .i64 (1 + (r : Int))) := by
      have h9 := Boxed.new (w7.alloc (.cells #[.slice Ap m cp] 37)) 3 (.int .i64 (1 + (r : Int)))
      rw [World.size_alloc, hw9] at h9
      exact h9
    have hfull := owned_later HV1.out.1 (H7.out.2.2.2.2.1.trans (b79.mono H7.out.2.2.2.2.1.size))
    have HE := hid (each37 (some ⟨f, 0, none⟩) n cap l w9 (rd_full HA.out.2.2.2 (Rd.of_own hfull)) (by omega))
    have H9 := hid (And.intro b79 (And.intro k10 (And.intro k11 hfull)))
    clear b79 k10 k11 hfull
    skip
    skip
    go_wp2_with (go_at_call 37; refine stop_ (fun Ps hPs => ?_))
    refine hPs ?_
    clear hPs Ps
    try rw [hw9]
    clear hw9
    refine HE.out.mono ?_
    clear HE
    rintro e w1' ⟨Bo, A1, cap1, rfl, hBo1, hBo2, hBo3, hrd, hlc, hcm1, hb10⟩
    rw [HA.out.2.2.2] at hBo3 hrd hlc
    have hrun := eql53 Bo
    have b7 : Below w7.heap.size w7 w1' := H9.out.1.trans (hb10.mono H9.out.1.size)
    have k8' : Boxed w1' w3.heap.size 30 (.slice A3 m c3) := (show Blk w7 _ 30 #[_] from H7.out.2.2.1).later b7
    have k10' : Boxed w1' w7.heap.size 37 (.slice Ap m cp) := (show Blk w9 _ 37 #[_] from H9.out.2.1).later hb10
    have k11' : Boxed w1' (w7.heap.size + 1) 3 (.int .i64 (1 + (r : Int))) := (show Blk w9 _ 3 #[_] from H9.out.2.2.1).later hb10
    have kR' : Boxed w1' B 4 (.bool false) := (show Blk w1 B 4 #[_] from H1.out.1).later (H7.out.2.2.2.2.1.trans (b7.mono H7.out.2.2.2.2.1.size))
    have HX := hid (And.intro k8' (And.intro k10' (And.intro k11' kR')))
    have HY := hid (And.intro (H7.out.2.1.later b7) (And.intro (owned_later H7.out.2.2.2.1 b7) (And.intro (owned_later H9.out.2.2.2 hb10) (H7.out.1.later b7))))
    have HZ := hid (And.intro (show Bo < w1'.heap.size from hBo2) (And.intro hBo3 (And.intro hrd (And.intro hlc hcm1))))
    have HBB := hid (H7.out.2.2.2.2.2.trans (b7.mono (by have h9 := H7.out.2.2.2.2.1.size; have h8 := H1.out.2.2; omega)))
    have HW1 := hid (show w1.heap.size ≤ w1'.heap.size by have h9 := H7.out.2.2.2.2.1.size; have h8 := b7.size; omega)
    have HSZ := hid (And.intro (show B < w1'.heap.size from kR'.lt) (And.intro k8'.lt (And.intro k10'.lt k11'.lt)))
    clear hBo1 hBo2 hBo3 hrd hlc hcm1 hb10 b7 k8' k10' k11' kR' H9 H7
    go_wp2_with fail
    refine (wpIn_wide (n := 3)).1 ?_
    refine wpIn_loop_rounds 3 ?_
    rw [roundsIn_succ]
    refine wpIn_wide.2 ?_
    go_wp2_with fail
    have ki1 : KI w1' w1'.heap.size 0 (w1'.alloc (.cells #[.int .i64 0] 3)) := ⟨Boxed.new w1' 3 (.int .i64 ((0 : Nat) : Int)), (Below.refl _ w1').alloc (Nat.le_refl _) _⟩
    have hsX1 : (w1'.alloc (.cells #[.int .i64 0] 3)).heap.size = w1'.heap.size + 1 := by simp
    obtain ⟨X1, hX1⟩ : ∃ X, w1'.alloc (.cells #[.int .i64 0] 3) = X := ⟨_, rfl⟩
    rw [hX1] at ki1 hsX1 ⊢
    clear hX1
    refine (wpIn_wide (n := 3)).1 ?_
    refine name_tmps (fun T hT => ?_)
    have HT := hid hT
    clear hT
    refine range_hands hro h1 (gf := 44) (lb := #[.pointer (some ⟨Bo, 0, none⟩)]) (by have hT := HT.out; subst hT; rfl) trivial (enters_of Try.func44 (by kernel_rfl) rfl)
      (each_hands 2 (by omega) Bo w1'.heap.size n cap1 A1 l HA.out.2.2.2.symm (by omega) X1 HZ.out.1 (by omega) ((ki1.2.cell (p := ⟨Bo, 0, none⟩) HZ.out.1).trans HZ.out.2.1) (HZ.out.2.2.1.below ki1.2) HZ.out.2.2.2.1 HZ.out.2.2.2.2) belowK_t (belowK_b (by omega)) (fun _ => rfl)
      (fun pre W => (KI w1' w1'.heap.size pre.length W ∧ pre.length < 1 + r))
      (fun c' pre W => (((c' = .exit 2 ∧ pre.length = 1 + r) ∧ KI w1' w1'.heap.size (1 + r) W) ∨ (c' = .ret ∧ Off (Vi.sq 0 l) pre)))
      ((OwnFrom.and (ki_own _ (by omega)) (ownFrom_pure _ (fun pre : List El => pre.length < 1 + r))))
      (fun c' => (OwnFrom.or (OwnFrom.and (ownFrom_pure _ (fun pre : List El => c' = .exit 2 ∧ pre.length = 1 + r)) (ki_own (fun _ => 1 + r) (by omega))) (ownFrom_pure _ (fun pre : List El => c' = .ret ∧ Off (Vi.sq 0 l) pre))))
      (fun x => rx_own _ x)
      ⟨ki1, (by show 0 < 1 + r; omega)⟩
      (fun x => { tmps := (((T.setIfInBounds 67 (.int .i64 (x.at_ : Int))).setIfInBounds 68 x.v).setIfInBounds 15 (.int .i64 (x.at_ : Int))).setIfInBounds 16 x.v, defers := [] })
      ?assign1 ?body1 ?done1 ?stop1
    case assign1 =>
      intro l x W K hK
      have hT := HT.out
      subst hT
      simp only [List.setIfInBounds_toArray, List.set_cons_succ, List.set_cons_zero] at hK
      gi_wp2
      exact hK
    case body1 =>
      rintro l9 pre x W ⟨ki, hl⟩ hx hlt
      obtain ⟨k, hk⟩ : ∃ k, k = pre.length := ⟨_, rfl⟩
      rw [← hk] at ki hl hlt
      have hkm : k < m := by have := HM.out.2.1; omega
      obtain ⟨xa, xr, xv⟩ := x
      obtain ⟨Ax, cx, hxv, hxr, hx13⟩ := hx
      simp only at hxv hxr hx13
      subst hxv
      obtain ⟨⟨ak, rk⟩, hsk⟩ : ∃ y, (Vi.sq 0 l)[k]? = some y := ⟨(Vi.sq 0 l)[k]'(by have := HM.out.2.1; omega), List.getElem?_eq_getElem _⟩
      have hrk : rs[k]? = some rk := by rw [← HM.out.1, List.getElem?_map, hsk]; rfl
      have hrec := HY.out.1.later (ki.2.mono (Nat.le_refl _))
      obtain ⟨b3, o3, u3, rfl, _, hu3, c3c⟩ := hrec.reads.2.1.at_ (k := k) (by omega)
      have hu3o := hrec.each k u3 rk hu3 hrk
      obtain ⟨Ai, ci, rfl, _, _⟩ := owned_slice hu3o
      obtain ⟨bp, op, up, rfl, _, hup, cpc⟩ := ((Rd.of_own HY.out.2.1).below ki.2).at_ (k := k) (by omega)
      have hupe : up = .int .i64 (ak : Int) := by
        simp only [nums, List.getElem?_map, hsk, Option.map_some, Option.some.injEq] at hup
        exact hup.symm
      subst hupe
      have cK := ki.1.cell
      have fK := ki.1.frozen
      have e8 : W.cell? ⟨w3.heap.size, 0, none⟩ = some (.slice (some ⟨b3, o3, none⟩) m c3) := (ki.2.cell (p := ⟨w3.heap.size, 0, none⟩) HSZ.out.2.1).trans HX.out.1.cell
      have e10 : W.cell? ⟨w7.heap.size, 0, none⟩ = some (.slice (some ⟨bp, op, none⟩) m cp) := (ki.2.cell (p := ⟨w7.heap.size, 0, none⟩) HSZ.out.2.2.1).trans HX.out.2.1.cell
      have e11 : W.cell? ⟨w7.heap.size + 1, 0, none⟩ = some (.int .i64 (1 + (r : Int))) := (ki.2.cell (p := ⟨w7.heap.size + 1, 0, none⟩) HSZ.out.2.2.2).trans HX.out.2.2.1.cell
      have eR : W.cell? ⟨B, 0, none⟩ = some (.bool false) := (ki.2.cell (p := ⟨B, 0, none⟩) HSZ.out.1).trans HX.out.2.2.2.cell
      have fR : W.frozen? ⟨B, 0, none⟩ = false := ((show Blk w1' B 4 #[_] from HX.out.2.2.2).later ki.2).frozen 0
      have hki : (k : Int) < (m : Int) := by omega
      have hk0 : (0 : Int) ≤ (k : Int) := Int.natCast_nonneg _
      have hk5 : (k : Int) ≤ 2000000 := by have := HM.out.2.2.1; omega
      have hdg : decide ((m : Int) ≤ (k : Int)) = false := by simp; omega
      have hdg2 : decide (m ≤ k) = false := by simp; omega
      have HSM := hid (same_any Ax Ai xr.length cx rk.length ci _ _ xr rk W hxr (Rd.of_own hu3o) (by omega) (by have := hrec.short rk (List.mem_of_getElem? hrk); omega))
      have KIH := hid ki
      have HSK := hid (And.intro hsk (And.intro hk hl))
      skip
      clear ki hsk hk hl hrec hu3 hu3o hup hrk hxr
      have hT := HT.out
      subst hT
      simp only [List.setIfInBounds_toArray, List.set_cons_succ, List.set_cons_zero]
      have t16 : Fence.wide.fn 16 := trivial
      by_cases hxa : xa = ak
      · subst hxa
        have hxe : ((xa : Int) != (xa : Int)) = false := by simp
        gi_wp2_with (gi_at_call 16; refine stop_ (fun Ps hPs => ?_))
        refine hPs ?_
        clear hPs Ps
        refine (CallsIn.inRound l9 (callsIn_wide.2 HSM.out)).mono ?_
        rintro e W9 ⟨rfl, d9, hd9'⟩
        have hb9 : Below W.heap.size W W9 := by rw [hd9']; exact below_drewN (Below.refl _ _) d9
        have kK9 := (show Blk W w1'.heap.size 3 #[_] from KIH.out.1).later hb9
        have cK9 : W9.cell? ⟨w1'.heap.size, 0, none⟩ = some (.int .i64 (k : Int)) := kK9.cell 0
        have fK9 : W9.frozen? ⟨w1'.heap.size, 0, none⟩ = false := kK9.frozen 0
        have ki9 := KIH.out.2.trans (hb9.mono KIH.out.2.size)
        have e11' : W9.cell? ⟨w7.heap.size + 1, 0, none⟩ = some (.int .i64 (1 + (r : Int))) := (ki9.cell (p := ⟨w7.heap.size + 1, 0, none⟩) HSZ.out.2.2.2).trans HX.out.2.2.1.cell
        have kR9 := (show Blk w1' B 4 #[_] from HX.out.2.2.2).later ki9
        have eR9 : W9.cell? ⟨B, 0, none⟩ = some (.bool false) := kR9.cell 0
        have fR9 : W9.frozen? ⟨B, 0, none⟩ = false := kR9.frozen 0
        have hKO := hid (keeps_below hb9)
        have HB9 := hid hb9
        skip
        skip
        clear kK9 ki9 kR9 hb9 hd9' cK fK e8 e10 e11 eR fR c3c cpc
        by_cases hxx : xr = rk
        · rw [decide_eq_true hxx]
          have HXX := hid hxx
          clear hxx
          have he : (pre ++ [(⟨xa, xr, .slice Ax xr.length cx⟩ : El)]).length = k + 1 := by rw [List.length_append, ← HSK.out.2.1]; rfl
          have HE := hid he
          have kc := KIH.out.count HB9.out (by omega) (k + 1)
          have cK2 : (W9.setCell ⟨w1'.heap.size, 0, none⟩ (.int .i64 ((k : Int) + 1))).cell? ⟨w1'.heap.size, 0, none⟩ = some (.int .i64 ((k : Int) + 1)) := kc.1.cell
          have c112 : (W9.setCell ⟨w1'.heap.size, 0, none⟩ (.int .i64 ((k : Int) + 1))).cell? ⟨w7.heap.size + 1, 0, none⟩ = some (.int .i64 (1 + (r : Int))) := (kc.2.cell (p := ⟨w7.heap.size + 1, 0, none⟩) HSZ.out.2.2.2).trans HX.out.2.2.1.cell
          have KC := hid kc
          clear he kc
          by_cases hlast : k = r
          · have hle2 : (k : Int) + 1 = 1 + (r : Int) := by omega
            have HL9 := hid hlast
            clear hlast
            rw [hle2] at cK2 c112
            gi_wp2
            have e2 : k + 1 = 1 + r := by have := HL9.out; omega
            have hkc := KC.out
            push_cast at hkc
            rw [hle2, e2] at hkc
            exact ⟨(hKO.out.trans (KeepsOthers.setCell _ _ _)).from _, .inl ⟨⟨rfl, by rw [HE.out]; exact e2⟩, hkc⟩⟩
          · have hle : ¬ (k : Int) + 1 = 1 + (r : Int) := by omega
            have HL9 := hid hlast
            clear hlast
            gi_wp2
            refine ⟨(hKO.out.trans (KeepsOthers.setCell _ _ _)).from _, (HB9.out.mono KIH.out.2.size).setCell (p := ⟨w1'.heap.size, 0, none⟩) (by show _ ≤ w1'.heap.size; omega) _, ⟨by rw [HE.out]; exact KC.out, by rw [HE.out]; have := HL9.out; have := HSK.out.2.2; omega⟩⟩
        · rw [decide_eq_false hxx]
          have HXX := hid hxx
          clear hxx
          gi_wp2
          refine ⟨(hKO.out.trans (KeepsOthers.setCell _ _ _)).from _, .inr ⟨rfl, pre, _, rfl, fun e9 => ?_⟩⟩
          rw [← HSK.out.2.1, HSK.out.1] at e9
          exact HXX.out (by simpa [El.p] using (Option.some.inj e9).symm)
      · have hxe : ((xa : Int) != (ak : Int)) = true := by simp; omega
        have HXX := hid hxa
        clear hxa
        gi_wp2
        refine ⟨(KeepsOthers.setCell _ _ _).from _, .inr ⟨rfl, pre, _, rfl, fun e9 => ?_⟩⟩
        rw [← HSK.out.2.1, HSK.out.1] at e9
        have e8 := Option.some.inj e9
        simp only [El.p, Prod.mk.injEq] at e8
        exact HXX.out e8.1.symm
    case done1 =>
      rintro D ys W hD hys ⟨ki, hl⟩ hK
      exfalso
      have h9 := congrArg List.length hys
      simp at h9
      have := HM.out.2.1
      omega
    case stop1 =>
      rintro D1 c' pre Wq hD ⟨k, hk, hpk⟩ h hK
      rcases h with ⟨⟨rfl, hl⟩, ki⟩ | ⟨rfl, ho⟩
      rotate_left
      · exact (off_not ho hpk).elim
      have hT := HT.out
      subst hT
      have cK := ki.1.cell
      push_cast at cK
      have e11 : Wq.cell? ⟨w7.heap.size + 1, 0, none⟩ = some (.int .i64 (1 + (r : Int))) := (ki.2.cell (p := ⟨w7.heap.size + 1, 0, none⟩) HSZ.out.2.2.2).trans HX.out.2.2.1.cell
      have HKI1 := hid ki
      have HK1 := hid hK
      have hD1 := hD
      clear ki hK
      refine wpIn_wide.2 ?_
      go_wp2_with fail
      rw [roundsIn_succ]
      refine wpIn_wide.2 ?_
      go_wp2_with fail
      have ki2 : KI w1' Wq.heap.size 0 (Wq.alloc (.cells #[.int .i64 0] 3)) := ⟨Boxed.new Wq 3 (.int .i64 ((0 : Nat) : Int)), HKI1.out.2.alloc HKI1.out.2.size _⟩
      have hd2 : (Wq.alloc (.cells #[.int .i64 0] 3)).heap[D1]? = some (.deferred (some [])) := by rw [Below.heap_alloc _ _ _ (Array.getElem?_eq_some_iff.1 HK1.out).1]; exact HK1.out
      have hsX2 : (Wq.alloc (.cells #[.int .i64 0] 3)).heap.size = Wq.heap.size + 1 := by simp
      obtain ⟨X2, hX2⟩ : ∃ X, Wq.alloc (.cells #[.int .i64 0] 3) = X := ⟨_, rfl⟩
      rw [hX2] at ki2 hsX2 hd2 ⊢
      clear hX2
      have hDs : D1 < Wq.heap.size := (Array.getElem?_eq_some_iff.1 HK1.out).1
      have hWs : w1'.heap.size ≤ Wq.heap.size := HKI1.out.2.size
      refine (wpIn_wide (n := 3)).1 ?_
      refine name_tmps (fun T hT => ?_)
      have HT := hid hT
      clear hT
      refine range_hands hro h1 (gf := 44) (lb := #[.pointer (some ⟨Bo, 0, none⟩)]) (by have hT := HT.out; subst hT; rfl) trivial (enters_of Try.func44 (by kernel_rfl) rfl)
        (each_hands 2 (by omega) Bo w1'.heap.size n cap1 A1 l HA.out.2.2.2.symm (by omega) X2 HZ.out.1 (by omega) ((ki2.2.cell (p := ⟨Bo, 0, none⟩) HZ.out.1).trans HZ.out.2.1) (HZ.out.2.2.1.below ki2.2) HZ.out.2.2.2.1 HZ.out.2.2.2.2) belowK_t (belowK_b (by omega)) (fun _ => rfl)
        (fun pre W => (KI w1' Wq.heap.size pre.length W ∧ pre.length < 1 + r) ∧ W.heap[D1]? = some (.deferred (some [])))
        (fun c' pre W => (((c' = .exit 2 ∧ pre.length = 1 + r) ∧ KI w1' Wq.heap.size (1 + r) W) ∨ (c' = .ret ∧ Off (Vi.sq 0 l) pre)) ∧ W.heap[D1]? = some (.deferred (some [])))
        (OwnFrom.and (OwnFrom.and (ki_own _ (by omega)) (ownFrom_pure _ (fun pre : List El => pre.length < 1 + r))) (own_def (by omega)))
        (fun c' => OwnFrom.and (OwnFrom.or (OwnFrom.and (ownFrom_pure _ (fun pre : List El => c' = .exit 2 ∧ pre.length = 1 + r)) (ki_own (fun _ => 1 + r) (by omega))) (ownFrom_pure _ (fun pre : List El => c' = .ret ∧ Off (Vi.sq 0 l) pre))) (own_def (by omega)))
        (fun x => rx_own _ x)
        ⟨⟨ki2, (by show 0 < 1 + r; omega)⟩, hd2⟩
        (fun x => { tmps := (((T.setIfInBounds 67 (.int .i64 (x.at_ : Int))).setIfInBounds 68 x.v).setIfInBounds 15 (.int .i64 (x.at_ : Int))).setIfInBounds 16 x.v, defers := [] })
        ?assign2 ?body2 ?done2 ?stop2
      case assign2 =>
        intro l x W K hK
        have hT := HT.out
        subst hT
        simp only [List.setIfInBounds_toArray, List.set_cons_succ, List.set_cons_zero] at hK
        gi_wp2
        exact hK
      case body2 =>
        rintro l9 pre x W ⟨⟨ki, hl⟩, hd⟩ hx hlt
        obtain ⟨k, hk⟩ : ∃ k, k = pre.length := ⟨_, rfl⟩
        rw [← hk] at ki hl hlt
        have hkm : k < m := by have := HM.out.2.1; omega
        obtain ⟨xa, xr, xv⟩ := x
        obtain ⟨Ax, cx, hxv, hxr, hx13⟩ := hx
        simp only at hxv hxr hx13
        subst hxv
        obtain ⟨⟨ak, rk⟩, hsk⟩ : ∃ y, (Vi.sq 0 l)[k]? = some y := ⟨(Vi.sq 0 l)[k]'(by have := HM.out.2.1; omega), List.getElem?_eq_getElem _⟩
        have hrk : rs[k]? = some rk := by rw [← HM.out.1, List.getElem?_map, hsk]; rfl
        have hrec := HY.out.1.later (ki.2.mono (Nat.le_refl _))
        obtain ⟨b3, o3, u3, rfl, _, hu3, c3c⟩ := hrec.reads.2.1.at_ (k := k) (by omega)
        have hu3o := hrec.each k u3 rk hu3 hrk
        obtain ⟨Ai, ci, rfl, _, _⟩ := owned_slice hu3o
        obtain ⟨bp, op, up, rfl, _, hup, cpc⟩ := ((Rd.of_own HY.out.2.1).below ki.2).at_ (k := k) (by omega)
        have hupe : up = .int .i64 (ak : Int) := by
          simp only [nums, List.getElem?_map, hsk, Option.map_some, Option.some.injEq] at hup
          exact hup.symm
        subst hupe
        have cK := ki.1.cell
        have fK := ki.1.frozen
        have e8 : W.cell? ⟨w3.heap.size, 0, none⟩ = some (.slice (some ⟨b3, o3, none⟩) m c3) := (ki.2.cell (p := ⟨w3.heap.size, 0, none⟩) HSZ.out.2.1).trans HX.out.1.cell
        have e10 : W.cell? ⟨w7.heap.size, 0, none⟩ = some (.slice (some ⟨bp, op, none⟩) m cp) := (ki.2.cell (p := ⟨w7.heap.size, 0, none⟩) HSZ.out.2.2.1).trans HX.out.2.1.cell
        have e11 : W.cell? ⟨w7.heap.size + 1, 0, none⟩ = some (.int .i64 (1 + (r : Int))) := (ki.2.cell (p := ⟨w7.heap.size + 1, 0, none⟩) HSZ.out.2.2.2).trans HX.out.2.2.1.cell
        have eR : W.cell? ⟨B, 0, none⟩ = some (.bool false) := (ki.2.cell (p := ⟨B, 0, none⟩) HSZ.out.1).trans HX.out.2.2.2.cell
        have fR : W.frozen? ⟨B, 0, none⟩ = false := ((show Blk w1' B 4 #[_] from HX.out.2.2.2).later ki.2).frozen 0
        have hki : (k : Int) < (m : Int) := by omega
        have hk0 : (0 : Int) ≤ (k : Int) := Int.natCast_nonneg _
        have hk5 : (k : Int) ≤ 2000000 := by have := HM.out.2.2.1; omega
        have hdg : decide ((m : Int) ≤ (k : Int)) = false := by simp; omega
        have hdg2 : decide (m ≤ k) = false := by simp; omega
        have HSM := hid (same_any Ax Ai xr.length cx rk.length ci _ _ xr rk W hxr (Rd.of_own hu3o) (by omega) (by have := hrec.short rk (List.mem_of_getElem? hrk); omega))
        have KIH := hid ki
        have HSK := hid (And.intro hsk (And.intro hk hl))
        have hd9 := hd
        clear ki hsk hk hl hrec hu3 hu3o hup hrk hxr
        have hT := HT.out
        subst hT
        simp only [List.setIfInBounds_toArray, List.set_cons_succ, List.set_cons_zero]
        have t16 : Fence.wide.fn 16 := trivial
        by_cases hxa : xa = ak
        · subst hxa
          have hxe : ((xa : Int) != (xa : Int)) = false := by simp
          gi_wp2_with (gi_at_call 16; refine stop_ (fun Ps hPs => ?_))
          refine hPs ?_
          clear hPs Ps
          refine (CallsIn.inRound l9 (callsIn_wide.2 HSM.out)).mono ?_
          rintro e W9 ⟨rfl, d9, hd9'⟩
          have hb9 : Below W.heap.size W W9 := by rw [hd9']; exact below_drewN (Below.refl _ _) d9
          have kK9 := (show Blk W Wq.heap.size 3 #[_] from KIH.out.1).later hb9
          have cK9 : W9.cell? ⟨Wq.heap.size, 0, none⟩ = some (.int .i64 (k : Int)) := kK9.cell 0
          have fK9 : W9.frozen? ⟨Wq.heap.size, 0, none⟩ = false := kK9.frozen 0
          have ki9 := KIH.out.2.trans (hb9.mono KIH.out.2.size)
          have e11' : W9.cell? ⟨w7.heap.size + 1, 0, none⟩ = some (.int .i64 (1 + (r : Int))) := (ki9.cell (p := ⟨w7.heap.size + 1, 0, none⟩) HSZ.out.2.2.2).trans HX.out.2.2.1.cell
          have kR9 := (show Blk w1' B 4 #[_] from HX.out.2.2.2).later ki9
          have eR9 : W9.cell? ⟨B, 0, none⟩ = some (.bool false) := kR9.cell 0
          have fR9 : W9.frozen? ⟨B, 0, none⟩ = false := kR9.frozen 0
          have hKO := hid (keeps_below hb9)
          have HB9 := hid hb9
          have hd8 : W9.heap[D1]? = some (.deferred (some [])) := (hb9.block D1 (Array.getElem?_eq_some_iff.1 hd9).1).trans hd9
          have HD9 := hid hd8
          clear kK9 ki9 kR9 hb9 hd9' cK fK e8 e10 e11 eR fR c3c cpc hd8 hd9
          by_cases hxx : xr = rk
          · rw [decide_eq_true hxx]
            have HXX := hid hxx
            clear hxx
            have he : (pre ++ [(⟨xa, xr, .slice Ax xr.length cx⟩ : El)]).length = k + 1 := by rw [List.length_append, ← HSK.out.2.1]; rfl
            have HE := hid he
            have kc := KIH.out.count HB9.out (by omega) (k + 1)
            have cK2 : (W9.setCell ⟨Wq.heap.size, 0, none⟩ (.int .i64 ((k : Int) + 1))).cell? ⟨Wq.heap.size, 0, none⟩ = some (.int .i64 ((k : Int) + 1)) := kc.1.cell
            have c112 : (W9.setCell ⟨Wq.heap.size, 0, none⟩ (.int .i64 ((k : Int) + 1))).cell? ⟨w7.heap.size + 1, 0, none⟩ = some (.int .i64 (1 + (r : Int))) := (kc.2.cell (p := ⟨w7.heap.size + 1, 0, none⟩) HSZ.out.2.2.2).trans HX.out.2.2.1.cell
            have KC := hid kc
            clear he kc
            by_cases hlast : k = r
            · have hle2 : (k : Int) + 1 = 1 + (r : Int) := by omega
              have HL9 := hid hlast
              clear hlast
              rw [hle2] at cK2 c112
              gi_wp2
              have e2 : k + 1 = 1 + r := by have := HL9.out; omega
              have hkc := KC.out
              push_cast at hkc
              rw [hle2, e2] at hkc
              exact ⟨(hKO.out.trans (KeepsOthers.setCell _ _ _)).from _, ⟨.inl ⟨⟨rfl, by rw [HE.out]; exact e2⟩, hkc⟩, (KeepsOthers.setCell _ _ _).same D1 _ HD9.out rfl⟩⟩
            · have hle : ¬ (k : Int) + 1 = 1 + (r : Int) := by omega
              have HL9 := hid hlast
              clear hlast
              gi_wp2
              refine ⟨(hKO.out.trans (KeepsOthers.setCell _ _ _)).from _, (HB9.out.mono KIH.out.2.size).setCell (p := ⟨Wq.heap.size, 0, none⟩) (by show _ ≤ Wq.heap.size; omega) _, ⟨⟨by rw [HE.out]; exact KC.out, by rw [HE.out]; have := HL9.out; have := HSK.out.2.2; omega⟩, (KeepsOthers.setCell _ _ _).same D1 _ HD9.out rfl⟩⟩
          · rw [decide_eq_false hxx]
            have HXX := hid hxx
            clear hxx
            gi_wp2
            refine ⟨(hKO.out.trans (KeepsOthers.setCell _ _ _)).from _, ⟨.inr ⟨rfl, pre, _, rfl, fun e9 => ?_⟩, (KeepsOthers.setCell _ _ _).same D1 _ HD9.out rfl⟩⟩
            rw [← HSK.out.2.1, HSK.out.1] at e9
            exact HXX.out (by simpa [El.p] using (Option.some.inj e9).symm)
        · have hxe : ((xa : Int) != (ak : Int)) = true := by simp; omega
          have HXX := hid hxa
          clear hxa
          gi_wp2
          refine ⟨(KeepsOthers.setCell _ _ _).from _, ⟨.inr ⟨rfl, pre, _, rfl, fun e9 => ?_⟩, (KeepsOthers.setCell _ _ _).same D1 _ hd9 rfl⟩⟩
          rw [← HSK.out.2.1, HSK.out.1] at e9
          have e8 := Option.some.inj e9
          simp only [El.p, Prod.mk.injEq] at e8
          exact HXX.out e8.1.symm
      case done2 =>
        rintro D ys W hD hys ⟨⟨ki, hl⟩, hd⟩ hK
        exfalso
        have h9 := congrArg List.length hys
        simp at h9
        have := HM.out.2.1
        omega
      case stop2 =>
        rintro D2 c' pre Wr hD ⟨k, hk, hpk⟩ h hK
        obtain ⟨h, hK1⟩ := h
        rcases h with ⟨⟨rfl, hl⟩, ki⟩ | ⟨rfl, ho⟩
        rotate_left
        · exact (off_not ho hpk).elim
        have hT := HT.out
        subst hT
        have cK := ki.1.cell
        push_cast at cK
        have e11 : Wr.cell? ⟨w7.heap.size + 1, 0, none⟩ = some (.int .i64 (1 + (r : Int))) := (ki.2.cell (p := ⟨w7.heap.size + 1, 0, none⟩) HSZ.out.2.2.2).trans HX.out.2.2.1.cell
        have HKI2 := hid ki
        have HK2 := hid hK
        have HK1b := hid hK1
        clear ki hK hK1
        refine wpIn_wide.2 ?_
        go_wp2_with fail
        rw [roundsIn_succ]
        refine wpIn_wide.2 ?_
        have b9 := HKI2.out.2
        have hfull := owned_later HY.out.2.2.1 b9
        have bBr : Below B w1' Wr := b9.mono (by have := HSZ.out.1; omega)
        have hkp := kept_any (some ⟨f, 0, none⟩) A (n + 3) cap n c (lent l) l Wr (Rd.of_own hfull) (((HA.out.1.below HBB.out).below bBr).more (by have := b9.size; have := HSZ.out.1; omega)) (by omega) (by omega)
        rw [decide_eq_true (rfl : lent l = lent l)] at hkp
        have HKP := hid hkp
        have HF := hid (And.intro hfull (And.intro (HY.out.2.2.2.later b9) (And.intro b9 (HBB.out.trans bBr))))
        clear hkp hfull bBr b9 e11
        go_wp2_with (go_at_call 20; refine stop_ (fun Ps hPs => ?_))
        refine hPs ?_
        clear hPs Ps
        refine HKP.out.mono ?_
        clear HKP
        rintro e W5 ⟨rfl, hb5⟩
        have hfull := owned_later HF.out.1 hb5
        have hrec := HF.out.2.1.later hb5
        have hro2 := hrec.out
        rw [← HM.out.2.2.2] at hro2
        have HO := hid hro2
        have H5 := hid (And.intro hfull (And.intro hrec hb5))
        have hsw : w1.heap.size ≤ W5.heap.size := by have := (H1.out.2.2); have := HF.out.2.2.1.size; have := hb5.size; have := HW1.out; omega
        clear hfull hrec hro2 hb5
        go_wp2_with (at_builtin; refine stop_ (fun Ps hPs => ?_))
        refine hPs ?_
        clear hPs Ps
        refine wpList_app1_g T30 (.tmp 102) (.tmp 104) (by first | rfl | (simp [Region.wanted, yielded])) rfl HO.out rfl (cs := #[.slice (some ⟨f, 0, none⟩) (n + 3) cap]) rfl rfl (by simp [Value.oneCell']) (by have := HM.out.2.2.1; omega) hsw fun v6 w6 hv6 hg6 hat6 => ?_
        obtain ⟨A6, c6, rfl, _, _⟩ := owned_slice hv6
        have hmrs := HM.out.2.2.2
        have hfb : ∀ b0 n0 v0 xs0, W5.ownsRow b0 5 1 v0 n0 xs0 → w6.ownsRow b0 5 1 v0 n0 xs0 := fun b0 n0 v0 xs0 h9 => owned_gb h9 hg6 fun g h1 h2 => ne_by_type h9 HO.out (by decide) g h1 h2.symm
        have hwl : w'.heap.size ≤ w1.heap.size := by have h9 := HV1.out.2.1; omega
        have hfown := hfb _ _ _ _ H5.out.1
        have hll : (lent l).length = n + 3 := by have := HA.out.2.2.2; simp [lent, spare]; omega
        have hvl : vs2.length = m := by rw [H5.out.2.1.len]; exact hmrs.symm
        have hvs : ∀ v, v ∈ vs2 ++ [.slice (some ⟨f, 0, none⟩) (n + 3) cap] → ∃ b0 n0 xs0, w6.ownsRow b0 5 1 v n0 xs0 := fun v hv => by
          rcases List.mem_append.1 hv with hv | hv
          · obtain ⟨k, hk⟩ := List.getElem?_of_mem hv
            obtain ⟨x, hx⟩ : ∃ x, rs[k]? = some x := ⟨rs[k]'(by rw [← H5.out.2.1.len]; exact (List.getElem?_eq_some_iff.1 hk).1), List.getElem?_eq_getElem _⟩
            exact ⟨_, _, _, hfb _ _ _ _ (H5.out.2.1.each k v x hk hx)⟩
          · rw [List.mem_singleton.1 hv]
            exact ⟨_, _, _, hfown⟩
        have HVS := hid hvs
        have hap := apart_oth w'.heap.size (m + 1) c6 A6 (vs2 ++ [.slice (some ⟨f, 0, none⟩) (n + 3) cap]) (rs ++ [lent l]) w6 (Rd.of_own hv6) (by have := HM.out.2.2.1; omega) (by rw [List.length_append, ← hmrs]; rfl)
          (fun x hx => by
            rcases List.mem_append.1 hx with hx | hx
            · have := H5.out.2.1.short x hx; omega
            · rw [List.mem_singleton.1 hx, hll]; omega)
          (fun i v x hv hx => by
            rcases Nat.lt_or_ge i m with hi | hi
            · rw [List.getElem?_append_left (by omega)] at hv hx
              exact owned_less (hfb _ _ _ _ (H5.out.2.1.each i v x hv hx)) hwl
            · rw [List.getElem?_append_right (by omega)] at hv hx
              have hi0 : i = m := by
                rcases Nat.eq_or_lt_of_le hi with h9 | h9
                · exact h9.symm
                · rw [List.getElem?_eq_none (by simp; omega)] at hv; cases hv
              rw [hi0, hvl] at hv
              rw [hi0, ← hmrs] at hx
              simp at hv hx
              subst hv hx
              rw [hll]
              exact hfown)
          (fun i j vi vj hi hj hij g hg hg2 => by
            have key : ∀ (k : Nat) v, (vs2 ++ [.slice (some ⟨f, 0, none⟩) (n + 3) cap])[k]? = some v → (k < m ∧ vs2[k]? = some v) ∨ (k = m ∧ v = .slice (some ⟨f, 0, none⟩) (n + 3) cap) := fun k v hv => by
              rcases Nat.lt_or_ge k m with hk | hk
              · rw [List.getElem?_append_left (by omega)] at hv
                exact .inl ⟨hk, hv⟩
              · rw [List.getElem?_append_right (by omega)] at hv
                have hk0 : k = m := by
                  rcases Nat.eq_or_lt_of_le hk with h9 | h9
                  · exact h9.symm
                  · rw [List.getElem?_eq_none (by simp; omega)] at hv; cases hv
                rw [hk0, hvl] at hv
                simp at hv
                exact .inr ⟨hk0, hv.symm⟩
            have far : ∀ (k : Nat) v, vs2[k]? = some v → ∀ g, v.ownBlock = some g → g ≠ f := fun k v hv g hg => by
              obtain ⟨x, hx⟩ : ∃ x, rs[k]? = some x := ⟨rs[k]'(by rw [← H5.out.2.1.len]; exact (List.getElem?_eq_some_iff.1 hv).1), List.getElem?_eq_getElem _⟩
              have h8 := ((H5.out.2.1.each k v x hv hx).lt g hg).1
              have h9 := HV1.out.2.1
              omega
            rcases key i vi hi with ⟨_, hi⟩ | ⟨hi0, rfl⟩
            · rcases key j vj hj with ⟨_, hj⟩ | ⟨hj0, rfl⟩
              · rcases Nat.lt_or_gt_of_ne hij with h9 | h9
                · exact pair_at H5.out.2.1.apart h9 hi hj g hg hg2
                · exact pair_at H5.out.2.1.apart h9 hj hi g hg2 hg
              · exact far i vi hi g hg (by simpa [Value.ownBlock] using hg2.symm)
            · rcases key j vj hj with ⟨_, hj⟩ | ⟨hj0, rfl⟩
              · exact far j vj hj g hg2 (by simpa [Value.ownBlock] using hg.symm)
              · omega)
          (fun b off e v hv hg => by
            have ho : ∃ b0 n0 xs0, w6.ownsRow b0 5 1 v n0 xs0 := by
              rcases List.mem_append.1 hv with hv | hv
              · obtain ⟨k, hk⟩ := List.getElem?_of_mem hv
                obtain ⟨x, hx⟩ : ∃ x, rs[k]? = some x := ⟨rs[k]'(by rw [← H5.out.2.1.len]; exact (List.getElem?_eq_some_iff.1 hk).1), List.getElem?_eq_getElem _⟩
                exact ⟨_, _, _, hfb _ _ _ _ (H5.out.2.1.each k v x hk hx)⟩
              · rw [List.mem_singleton.1 hv]
                exact ⟨_, _, _, hfown⟩
            obtain ⟨b0, n0, xs0, ho⟩ := ho
            exact ne_by_type ho hv6 (by decide) b hg (by rw [e]; rfl))
          (by have := hg6.size; omega)
        have HAP := hid hap
        have hB6 : Below (B + 1) w1' w6 := by
          have h9 : Below (B + 1) w1' W5 := (HF.out.2.2.1.mono (by have := HSZ.out.1; omega)).trans (H5.out.2.2.mono (by have := HSZ.out.1; have := HF.out.2.2.1.size; omega))
          exact h9.grown hg6 (by have := HSZ.out.1; have := HF.out.2.2.1.size; have := H5.out.2.2.size; omega) (fun g hg => by have := (HO.out.lt g hg).1; have := H1.out.2.2; omega)
        have HB6 := hid hB6
        clear hap hB6 hfb hwl hfown hll hvl hmrs hv6 hat6 hvs
        go_wp2_with (go_at_call 21; refine stop_ (fun Ps hPs => ?_))
        refine hPs ?_
        clear hPs Ps
        refine HAP.out.mono ?_
        clear HAP
        rintro e W7 ⟨rfl, hb7, hoth⟩
        have hkeep : ∀ D : Nat, Wr.heap[D]? = some (.deferred (some [])) → W7.heap[D]? = some (.deferred (some [])) := fun D hD => by
          have h5 : W5.heap[D]? = some (.deferred (some [])) := (H5.out.2.2.block D (Array.getElem?_eq_some_iff.1 hD).1).trans hD
          have hlt5 := (Array.getElem?_eq_some_iff.1 h5).1
          have h6 : w6.heap[D]? = some (.deferred (some [])) := (hg6.block D hlt5 (fun e9 => by
            rcases HO.out.2 with ⟨h9, _⟩ | ⟨g, cp9, cur, h9, _, h4, _⟩
            · rw [h9] at e9
              simp [Value.ownBlock] at e9
            · rw [h9] at e9
              simp [Value.ownBlock] at e9
              rw [← e9, h5] at h4
              cases h4)).trans h5
          refine (hoth D (Array.getElem?_eq_some_iff.1 h6).1 (fun v hv e9 => ?_)).trans h6
          obtain ⟨b0, n0, xs0, ho⟩ := HVS.out v hv
          rcases ho.2 with ⟨h9, _⟩ | ⟨g, cp9, cur, h9, _, h4, _⟩
          · rw [h9] at e9
            simp [Value.ownBlock] at e9
          · rw [h9] at e9
            simp [Value.ownBlock] at e9
            rw [e9, h6] at h4
            cases h4
        have HK7 := hid (And.intro (hkeep D1 HK1b.out) (hkeep D2 HK2.out))
        clear hkeep hoth
        have hb17 : Below (B + 1) w1' W7 := HB6.out.trans (hb7.mono (by have := HV1.out.2.1; have := HR0.out.2.2; omega))
        have kR7 : Boxed W7 B 4 (.bool false) := (show Blk w1' B 4 #[_] from HX.out.2.2.2).below hb17 (by omega)
        have cR7 := kR7.cell
        have fR7 := kR7.frozen
        have HQ := hid (And.intro hb17 kR7)
        clear hb17 kR7
        go_wp2_with fail
        have hK2s := (KeepsOthers.setCell W7 ⟨B, 0, none⟩ (.bool true)).same D2 _ HK7.out.2 rfl
        have hK1s := (KeepsOthers.setCell W7 ⟨B, 0, none⟩ (.bool true)).same D1 _ HK7.out.1 rfl
        have hDne : D1 ≠ D2 := by omega
        have hK1p : ((W7.setCell ⟨B, 0, none⟩ (.bool true)).putObj D2 (.deferred none)).heap[D1]? = some (.deferred (some [])) := by rw [World.putObj_heap_other hDne]; exact hK1s
        refine ⟨by simp, .inl ⟨_, _, rfl, run_takeDeferred hK2s, ⟨by simp, .inl ⟨_, _, rfl, run_takeDeferred hK1p, ?_⟩⟩⟩⟩
        have hbx := HQ.out.2.set (.bool true)
        have q1 := cell_kept hbx.cell (grownBy_putObj' _ D2 (.deferred none)) (fun r e => by cases e; exact ⟨_, hK2s, rfl⟩)
        have q2 := cell_kept q1 (grownBy_putObj' _ D1 (.deferred none)) (fun r e => by cases e; exact ⟨_, hK1p, rfl⟩)
        have hBD1 : B ≤ D1 := by have := HSZ.out.1; omega
        have hBD2 : B ≤ D2 := by have := HSZ.out.1; omega
        refine ⟨_, ?_, rfl, below_putD (below_putD ((HBB.out.trans (HQ.out.1.mono (by omega))).setCell (p := ⟨B, 0, none⟩) (Nat.le_refl _) _) hBD2 hK2s) hBD1 hK1p⟩
        simp [results, Try.results12, Try.f12, go_sem, q2]
end Go.Proofs.Ythihhmmpkbdmnaa
