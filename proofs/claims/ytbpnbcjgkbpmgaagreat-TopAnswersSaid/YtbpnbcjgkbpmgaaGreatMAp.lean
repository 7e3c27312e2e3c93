/- A primary answers without waiting for the other site, as many times as its leash allows: of any acts. No condition. (part 16) -/
import Derived.BigQuiet
import Derived.Test.YtbpnbcjgkbpmgaaGreatMAc
import Derived.Test.YtbpnbcjgkbpmgaaGreatMAg
import Derived.Test.YtbpnbcjgkbpmgaaGreatMAh
import Derived.Test.YtbpnbcjgkbpmgaaGreatMAj
import Derived.Test.YtbpnbcjgkbpmgaaGreatMAk
import Derived.Test.YtbpnbcjgkbpmgaaGreatMAm
import Derived.Test.YtbpnbcjgkbpmgaaGreatMAn
import Derived.Test.YtbpnbcjgkbpmgaaGreatMAo
namespace Go.Proofs.YtbpnbcjgkbpmgaaGreat
open Go.RowKit Go.Lg Ds
set_option linter.unusedVariables false
set_option linter.unusedSimpArgs false
def Num2 (a b : Int) (w : World) (e : Ending) (w' : World) : Prop := e = .returned (.tuple #[.int .i64 a, .int .i64 b]) ∧ w = w'
set_option maxHeartbeats 1000000 in
set_option maxRecDepth 100000 in
theorem lcheck39 (m : Int) (h1 : 1 ≤ m) (h2 : m ≤ 16) (w : World) : Calls Tryz.prog 39 #[.int .i64 m] w (Num0 0 w) := by
  go_enter Tryz.func39, Tryz.ntmps39
  go_wp2_with fail
  all_goals first | omega | (go_ret; exact ⟨rfl, rfl⟩)
set_option maxHeartbeats 1000000 in
set_option maxRecDepth 100000 in
theorem lout170 (e a : Int) (h1 : 0 ≤ a) (h2 : a ≤ e) (h3 : e ≤ 1048576) (w : World) : Calls Tryz.prog 170 #[.int .i64 e, .int .i64 a] w (Num2 (e - a) 0 w) := by
  have h4 : 0 ≤ e := by omega
  go_enter Tryz.func170, Tryz.ntmps170
  go_wp2_with fail
  all_goals first | omega | (go_ret2; exact ⟨rfl, rfl⟩)
set_option maxHeartbeats 1000000 in
set_option maxRecDepth 100000 in
theorem admit149 (e a m : Int) (h1 : 0 ≤ a) (h2 : a ≤ e) (h3 : e < 1048576) (m1 : 1 ≤ m) (m2 : m ≤ 16) (w : World) : Calls Tryz.prog 149 #[.int .i64 e, .int .i64 a, .int .i64 m] w (Num0 (if m ≤ e - a then 8 else 0) w) := by
  have hc := lcheck39 m m1 m2 w
  have ho := lout170 e a h1 h2 (by omega) w
  by_cases hl : m ≤ e - a
  · have HR : Hid ((if m ≤ e - a then (8 : Int) else 0) = 8) := if_pos hl
    go_enter Tryz.func149, Tryz.ntmps149
    go_wp2_with (first | (go_at_call 39; (with_reducible refine hc.mono ?_); rintro e' w1 ⟨rfl, rfl⟩) | (go_at_call 170; (with_reducible refine ho.mono ?_); rintro e' w1 ⟨rfl, rfl⟩))
    all_goals first | omega | (go_ret; first | exact ⟨rfl, rfl⟩ | exact ⟨by rw [HR.out], rfl⟩)
  · have HR : Hid ((if m ≤ e - a then (8 : Int) else 0) = 0) := if_neg hl
    have hne : e ≠ 1048576 := by omega
    go_enter Tryz.func149, Tryz.ntmps149
    go_wp2_with (first | (go_at_call 39; (with_reducible refine hc.mono ?_); rintro e' w1 ⟨rfl, rfl⟩) | (go_at_call 170; (with_reducible refine ho.mono ?_); rintro e' w1 ⟨rfl, rfl⟩))
    all_goals first | omega | (go_ret; first | exact ⟨rfl, rfl⟩ | exact ⟨by rw [HR.out], rfl⟩)
set_option maxHeartbeats 1000000 in
set_option maxRecDepth 100000 in
theorem lacked134 (e a t : Int) (h1 : 0 ≤ a) (h2 : a ≤ e) (h3 : e ≤ 1048576) (w : World) : Calls Tryz.prog 134 #[.int .i64 e, .int .i64 a, .int .i64 t] w (Num2 (max a (min t e)) 0 w) := by
  have ho := lout170 e a h1 h2 h3 w
  go_enter Tryz.func134, Tryz.ntmps134
  go_wp2_with (go_at_call 170; (with_reducible refine ho.mono ?_); rintro e' w1 ⟨rfl, rfl⟩)
  all_goals first | omega | (go_ret2; refine ⟨congrArg (fun k : Int => Ending.returned (.tuple #[.int .i64 k, .int .i64 0])) ?_, rfl⟩; omega)
end Go.Proofs.YtbpnbcjgkbpmgaaGreat
namespace Go.Proofs.YtbpnbcjgkbpmgaaGreat
open Go.RowKit Go.Lg Go.Shelf St Ds
set_option linter.unusedVariables false
set_option linter.unusedSimpArgs false
abbrev wcs (dz : Nat) (b : Bool) (vC vE : Value) : Array Value := #[P dz, .bool b, vC, vE]
theorem wcells {w : World} {z dz : Nat} {b : Bool} {vC vE : Value} (h : Blk w z 280 (wcs dz b vC vE)) :
    w.cell? ⟨z, 0, none⟩ = some (P dz) ∧ w.cell? ⟨z, 1, none⟩ = some (.bool b) ∧ w.cell? ⟨z, 2, none⟩ = some vC ∧ w.cell? ⟨z, 3, none⟩ = some vE := ⟨h.cell 0, h.cell 1, h.cell 2, h.cell 3⟩
set_option maxHeartbeats 1000000 in
set_option maxRecDepth 100000 in
theorem wnone226 {w : World} {z dz : Nat} {b : Bool} {vC vE : Value} (h : Blk w z 280 (wcs dz b vC vE)) : Calls Tryz.prog 226 #[P z] w (Asked false w) := by
  obtain ⟨c0, _⟩ := wcells h
  clear h
  go_enter Tryz.func226, Tryz.ntmps226
  go_wp2_with fail
  go_ret
  exact asked_eq rfl
set_option maxHeartbeats 1000000 in
set_option maxRecDepth 100000 in
theorem wwrong203 {w : World} {z dz : Nat} {vC vE : Value} (h : Blk w z 280 (wcs dz false vC vE)) (ho : Calls Tryz.prog 118 #[P dz] w (Asked true w)) : Calls Tryz.prog 203 #[P z] w (Num0 0 w) := by
  have hn := wnone226 h
  obtain ⟨c0, c1, _⟩ := wcells h
  clear h
  go_enter Tryz.func203, Tryz.ntmps203
  go_wp2_with (first | (go_at_call 226; (with_reducible refine hn.mono ?_); rintro e' w1 ⟨rfl, rfl⟩) | (go_at_call 118; (with_reducible refine ho.mono ?_); rintro e' w1 ⟨rfl, rfl⟩))
  go_ret
  exact ⟨rfl, rfl⟩
set_option maxHeartbeats 1000000 in
set_option maxRecDepth 100000 in
theorem wtried205 (z : Nat) (w : World) : Calls Tryz.prog 205 #[P z, .int .i64 0] w (Num0 0 w) := by
  go_enter Tryz.func205, Tryz.ntmps205
  go_wp2_with fail
  go_ret
  exact ⟨rfl, rfl⟩
set_option maxHeartbeats 1000000 in
set_option maxRecDepth 100000 in
theorem wend191 {w : World} {z dz n c : Nat} {b : Bool} {A : Option Addr} {vE : Value} (h : Blk w z 280 (wcs dz b (.slice A n c) vE)) : Calls Tryz.prog 191 #[P z] w (Num0 n w) := by
  have hn := wnone226 h
  obtain ⟨c0, c1, c2, _⟩ := wcells h
  clear h
  go_enter Tryz.func191, Tryz.ntmps191
  go_wp2_with (go_at_call 226; (with_reducible refine hn.mono ?_); rintro e' w1 ⟨rfl, rfl⟩)
  go_ret
  exact ⟨rfl, rfl⟩
theorem ic_last {es : List Nat} (h : 0 < es.length) : (ic es)[es.length - 1]? = some (.int .i64 (wlen es : Nat)) := by
  unfold ic wlen
  rw [List.getElem?_map, List.getLastD_eq_getLast?, List.getLast?_eq_getElem?, List.getElem?_eq_getElem (by omega)]
  rfl
set_option maxHeartbeats 1000000 in
set_option maxRecDepth 100000 in
theorem wlen68 {w : World} {F : Fp} {A : Option Addr} {c : Nat} {es : List Nat} (h : RdF w F 1 A es.length (ic es)) (hm : es.length ≤ maxLen) : Calls Tryz.prog 68 #[.slice A es.length c] w (Num0 (wlen es : Nat) w) := by
  unfold maxLen at hm
  rcases Nat.eq_zero_or_pos es.length with h0 | h0
  · have HR : Hid (wlen es = 0) := by rw [List.eq_nil_of_length_eq_zero h0]; exact hid rfl
    rw [h0]
    clear h hm h0
    go_enter Tryz.func68, Tryz.ntmps68
    go_wp2_with fail
    all_goals first | omega | (go_ret; exact ⟨by rw [HR.out]; rfl, rfl⟩)
  · obtain ⟨b, off, rfl, _, hc⟩ := h.2 (by simp [ic]; omega)
    have c0 := hc _ _ (ic_last h0)
    obtain ⟨n, hn⟩ : ∃ n, n = es.length := ⟨_, rfl⟩
    obtain ⟨x, hx⟩ : ∃ x, x = wlen es := ⟨_, rfl⟩
    rw [← hn] at hm h0 c0 ⊢
    rw [← hx] at c0 ⊢
    clear hn hx hc h
    have d2 : ¬(n = 0) := by omega
    have hw2 : IntKind.i64.wrap ((n : Int) - 1) = (n : Int) - 1 := IntWalk.i64_in _ (by omega)
    have hn1 : (1 : Int) ≤ (n : Int) := by omega
    have hn2 : (n : Int) - 1 < (n : Int) := by omega
    have hz : (n : Int) ≠ 0 := by omega
    go_enter Tryz.func68, Tryz.ntmps68
    go_wp2_with fail
    all_goals first | omega | (go_ret; exact ⟨rfl, rfl⟩)
end Go.Proofs.YtbpnbcjgkbpmgaaGreat
namespace Go.Proofs.YtbpnbcjgkbpmgaaGreat
open Go.RowKit Go.Lg Go.Shelf St Ds
set_option linter.unusedVariables false
set_option linter.unusedSimpArgs false
def ScanIs (b : Bys) (w : World) (e : Ending) (w' : World) : Prop :=
  ∃ vC ms, e = .returned (.tuple #[vC, .int .i64 (wlen (wscan b).2 : Nat)]) ∧ ms.map Cm.p = (wscan b).1 ∧ Cl w' (fun k => w.heap.size ≤ k) vC ms ∧ Below w.heap.size w w'
set_option maxHeartbeats 1000000 in
set_option maxRecDepth 100000 in
theorem wscan31 {w : World} {A : Option Addr} {n c : Nat} {b : Bys} (h : Rd w w.heap.size 1 A n (bts b)) (hn : n ≤ 2000000) (hc : n ≤ c) (hcm : c ≤ maxLen) : Calls Tryz.prog 31 #[.slice A n c] w (ScanIs b w) := by
  have hs := scan67 h hn hc hcm
  clear h
  go_enter Tryz.func31, Tryz.ntmps31
  go_wp2_with (go_at_call 67; refine stop_ (fun Ps hPs => ?_))
  refine hPs ?_
  clear hPs Ps
  refine hs.mono ?_
  rintro e' w1 ⟨vC, vE, ms, rfl, hms, hcl, hen, hb⟩
  obtain ⟨A2, c2, rfl, q1, q2⟩ := hen.slice_
  have hl := wlen68 (c := c2) hen.rdf (by omega)
  have HCL := hid hcl
  have HMS := hid hms
  have HB := hid hb
  clear hcl hms hb hen hs
  go_wp2_with (go_at_call 68; (with_reducible refine hl.mono ?_); rintro e' w2 ⟨rfl, rfl⟩)
  go_ret2
  exact ⟨_, ms, rfl, HMS.out, HCL.out, HB.out⟩
theorem wscan_nil : wscan [] = ([], []) := by rfl
set_option maxHeartbeats 1000000 in
set_option maxRecDepth 100000 in
theorem wopen189 {w : World} {F : Fp} {dz : Nat} {fs : Nat → Bs} (h : Dk w F dz (At fs)) (hs : tot fs ≤ 17592186044416) (h0 : fs 0 = []) : Calls Tryz.prog 189 #[P dz] w (NewO w fun w' F z => Wl w' F z dz ⟨false, [], []⟩) := by
  have hr := read_empty h hs (f := 0) (by decide) h0
  clear h
  go_enter Tryz.func189, Tryz.ntmps189
  go_wp2_with (go_at_call 73; refine stop_ (fun Ps hPs => ?_))
  refine hPs ?_
  clear hPs Ps
  refine hr.mono ?_
  rintro e' w1 ⟨A, c, rfl, hc, hb⟩
  have HB := hid hb
  have hsc := scan67 (w := w1) (A := A) (n := 0) (c := c) (b := []) ⟨rfl, fun h => absurd h (Nat.lt_irrefl _)⟩ (by omega) (by omega) hc
  clear hb hr
  go_wp2_with (go_at_call 67; refine stop_ (fun Ps hPs => ?_))
  refine hPs ?_
  clear hPs Ps
  refine hsc.mono ?_
  rintro e' w2 ⟨vC, vE, ms, rfl, hms, hcl, hen, hb⟩
  rw [wscan_nil] at hms hen
  have hm0 : ms = [] := by cases ms with | nil => rfl | cons a l => simp at hms
  subst hm0
  obtain ⟨A1, c1, rfl, _, _⟩ := hcl.row.slice_
  have HEN := hid hen
  have HCL := hid hcl
  have HB2 := hid (bl_trans HB.out hb HB.out.size)
  have HB3 := hid HB.out.size
  have Hsz := hb.size
  obtain ⟨A2, c2, rfl, q1, q2⟩ := hen.slice_
  have hl : Calls Tryz.prog 68 #[.slice A2 0 c2] w2 (Num0 0 w2) := wlen68 (es := []) (c := c2) hen.rdf (by simp)
  clear hcl hms hb hen hsc
  go_wp2_with (go_at_call 68; (with_reducible refine hl.mono ?_); rintro e' w3 ⟨rfl, rfl⟩)
  go_ret2
  refine ⟨w2.heap.size, fun k => w1.heap.size ≤ k, rfl, ⟨_, _, [], Hsz, Blk.new _ _ _, rfl, HCL.out.later ((Below.refl _ _).alloc (Nat.le_refl _) _), HEN.out.alloc _⟩, HB2.out.alloc HB2.out.size _, fun k hk => Nat.le_trans HB3.out hk⟩
set_option maxHeartbeats 1000000 in
set_option maxRecDepth 100000 in
theorem wfrom190 {w : World} {z dz c : Nat} {b : Bool} {A : Option Addr} {vE : Value} (h : Blk w z 280 (wcs dz b (.slice A 0 c) vE)) : Calls Tryz.prog 190 #[P z, .int .i64 1, .int .i64 0] w fun e w' => e = .returned (.slice none 0 0) ∧ w = w' := by
  have hn := wend191 h
  clear h
  go_enter Tryz.func190, Tryz.ntmps190
  go_wp2_with (go_at_call 191; (with_reducible refine hn.mono ?_); rintro e' w1 ⟨rfl, rfl⟩)
  all_goals first | omega | (go_ret; exact ⟨rfl, rfl⟩)
def WDid (i j : Nat) (dz z : Nat) (d : Dsk) (x : Wal) (tag : Nat → Nat) (w : World) (e : Ending) (w' : World) : Prop :=
  e = .returned (.int .i64 0) ∧ ∃ tag', Turn (fun k => k = i ∨ k = j) w tag w' tag' ∧ Dk w' (Ow tag' i) dz d ∧ Wl w' (Ow tag' j) z dz x
set_option maxHeartbeats 1000000 in
set_option maxRecDepth 100000 in
theorem wsync173 {w : World} {tag : Nat → Nat} {i j dz z f : Nat} {fs : Nat → Bs} {b : Bs} {cs : List Cmt} {es : List Nat} (hT : Tidy w tag) (hij : i ≠ j) (hi : i ≠ 0) (hf : f < 4) (hd : Dk w (Ow tag i) dz (Wt fs f b)) (hx : Wl w (Ow tag j) z dz ⟨false, cs, es⟩)
    (hs : tot fs + 64 * b.length ≤ 17592186044416) : Calls Tryz.prog 173 #[P z] w (WDid i j dz z (At (upd fs f (fs f ++ b))) ⟨false, cs, es⟩ tag w) := by
  have hon : Calls Tryz.prog 118 #[P dz] w (Asked true w) := on118 hd
  have hsy := sync132 hd (Wt.ok fs hf b) (by have := wt_sz fs f b; omega)
  rw [wt_sync] at hsy
  have HX := hid hx
  obtain ⟨vC, vE, ms, inz, blk, hms, cl, en⟩ := hx
  have hw := wwrong203 blk hon
  obtain ⟨c0, c1, c2, c3⟩ := wcells blk
  clear blk cl en hd hon
  go_enter Tryz.func173, Tryz.ntmps173
  go_wp2_with (first | (go_at_call 203; (with_reducible refine hw.mono ?_); rintro e' w1 ⟨rfl, rfl⟩) | (go_at_call 132; refine stop_ (fun Ps hPs => ?_)))
  refine hPs ?_
  clear hPs Ps
  refine hsy.mono ?_
  rintro e' w2 ⟨rfl, hl⟩
  obtain ⟨tag', ht, hd'⟩ := DLeft.turn (I := fun k => k = i) hT hl rfl
  have HT := hid ht
  have HD := hid hd'
  clear hl ht hd' hsy hw
  go_wp2_with (go_at_call 205; (with_reducible refine (wtried205 z w2).mono ?_); rintro e' w3 ⟨rfl, rfl⟩)
  go_ret
  exact ⟨rfl, tag', HT.out.more (fun _ h => .inl h), HD.out, HX.out.mv (HT.out.mv (fun h => hij h.symm))⟩
end Go.Proofs.YtbpnbcjgkbpmgaaGreat
namespace Go.Proofs.YtbpnbcjgkbpmgaaGreat
open Go.RowKit Go.Lg Go.Shelf St Ds
set_option linter.unusedVariables false
set_option linter.unusedSimpArgs false
theorem lastEp_cm {ms : List Cm} {cs : List Cmt} (h : ms.map Cm.p = cs) (hn : 0 < ms.length) : ∃ m, ms[ms.length - 1]? = some m ∧ m.ep = lastEp cs := by
  refine ⟨ms[ms.length - 1]'(by omega), List.getElem?_eq_getElem _, ?_⟩
  subst h
  unfold lastEp
  rw [List.getLast?_eq_getElem?, List.getElem?_map, List.length_map, List.getElem?_eq_getElem (by omega)]
  rfl
set_option maxHeartbeats 1000000 in
set_option maxRecDepth 100000 in
theorem wepoch204 {w : World} {F : Fp} {z dz : Nat} {b : Bool} {cs : List Cmt} {es : List Nat} (h : Wl w F z dz ⟨b, cs, es⟩) : Calls Tryz.prog 204 #[P z] w fun e w' => e = .returned (.int .i64 (lastEp cs)) ∧ ∃ d, w' = w.drewN d := by
  obtain ⟨vC, vE, ms, inz, blk, hms, cl, en⟩ := h
  obtain ⟨A, c, rfl, q1, q2⟩ := cl.row.slice_
  have he := wend191 blk
  obtain ⟨c0, c1, c2, c3⟩ := wcells blk
  unfold maxLen at q2
  rcases Nat.eq_zero_or_pos ms.length with h0 | h0
  · have hl : lastEp cs = 0 := by
      have : ms = [] := List.eq_nil_of_length_eq_zero h0
      subst this
      simp only at hms
      rw [← hms]; rfl
    rw [hl]
    rw [h0] at he
    clear blk cl en hms hl c2 h0
    go_enter Tryz.func204, Tryz.ntmps204
    go_wp2_with (go_at_call 191; (with_reducible refine he.mono ?_); rintro e' w1 ⟨rfl, rfl⟩)
    all_goals first | omega | (go_ret; exact ⟨rfl, 0, rfl⟩)
  · obtain ⟨m, hm, hme⟩ := lastEp_cm hms h0
    obtain ⟨g, off, rfl, _, hc⟩ := cl.row.rdf.2 (by have := cl.row.1; omega)
    have k0 := hc _ _ (cmc_get ms _ m hm).1
    rw [← hme]
    obtain ⟨n, hn⟩ : ∃ n, n = ms.length := ⟨_, rfl⟩
    rw [← hn] at q1 h0 k0 c2 he
    have hw2 : IntKind.i64.wrap ((n : Int) - 1) = (n : Int) - 1 := IntWalk.i64_in _ (by omega)
    have hn1 : (1 : Int) ≤ (n : Int) := by omega
    have hn2 : (n : Int) - 1 < (n : Int) := by omega
    have hz : (n : Int) ≠ 0 := by omega
    have hz2 : ((n : Int) == 0) = false := by simp; omega
    clear blk cl en hms hm hme hc hn h0
    go_enter Tryz.func204, Tryz.ntmps204
    go_wp2_with (go_at_call 191; (with_reducible refine he.mono ?_); rintro e' w1 ⟨rfl, rfl⟩)
    go_quiet (fail)
    all_goals go_wp2_with fail
    all_goals first | omega | (go_ret; exact ⟨rfl, _, rfl⟩)
end Go.Proofs.YtbpnbcjgkbpmgaaGreat
namespace Go.Proofs.YtbpnbcjgkbpmgaaGreat
open Go.RowKit Go.Lg Ds St
set_option linter.unusedVariables false
set_option linter.unusedSimpArgs false
def SDid (F : Fp) (z rz n : Nat) (cs : List Cmt) (w : World) (e : Ending) (w' : World) : Prop :=
  e = .returned (.int .i64 0) ∧ ∃ F', Sr w' F' z rz n cs ∧ Mod F w w' ∧ Sub w F F'
theorem Cmt.oks {c : Cmt} (h : c.k = 0) : (∀ o ∈ c.os, o.ok) ∧ c.os.length ≤ 8 ∧ 1 ≤ c.ep ∧ c.ep ≤ 1048576 ∧ 1 ≤ c.num ∧ c.num ≤ 1048576 := by
  unfold Cmt.k at h
  split at h
  · rename_i h1
    unfold bk at h
    split at h
    · cases h
    · split at h
      · cases h
      · split at h
        · rename_i h2 h3 h4
          exact ⟨h4, by omega, h1.1.1, h1.1.2, h1.2.1, h1.2.2⟩
        · cases h
  · cases h
set_option maxHeartbeats 2000000 in
set_option maxRecDepth 100000 in
theorem sapply174 {w : World} {F G H : Fp} {z rz dz n : Nat} {cs : List Cmt} (h : Sr w F z rz n cs) (hr : R0 w H rz dz) {ep num : Int} {A : Option Addr} {k c : Nat} {os : List Op3} (ho : Ro w G A k c (opc os)) (hl : os.length = k) (hd : Dj G F)
    (hck : (Cmt.mk ep num os).k = 0) (hnum : num - 1 = cs.length) (hep : lastEp cs ≤ ep) (hn : n ≤ 1000000) (hcs : cs.length ≤ 100000) : Calls Tryz.prog 174 #[P z, cmv ep num A k c] w (SDid F z rz (n + k) (cs ++ [⟨ep, num, os⟩]) w) := by
  obtain ⟨hok, hk8, _⟩ := Cmt.oks hck
  simp only at hok hk8
  subst hl
  have hkc := ho.cap
  unfold maxLen at hkc
  obtain ⟨W, hW⟩ : ∃ W, W = w.alloc (.cells (cmcs ep num A os.length c) 88) := ⟨_, rfl⟩
  have lW : Lat w W := by rw [hW]; exact (Lat.refl w).alloc _
  have kW : Blk W w.heap.size 88 (cmcs ep num A os.length c) := by rw [hW]; exact Blk.new _ _ _
  have hsW : Sr W F z rz n cs := h.mv (bmv lW.b F)
  have hrW : R0 W H rz dz := hr.mv (bmv lW.b H)
  have hoW := ho.later lW.b
  have hn1 := snone180 hsW
  have hch := rcheck (W := W) ep num hoW (by omega)
  rw [hck] at hch
  have b0 : W.cell? ⟨w.heap.size, 0, none⟩ = some (.int .i64 ep) := kW.cell 0
  have b1 : W.cell? ⟨w.heap.size, 1, none⟩ = some (.int .i64 num) := kW.cell 1
  have b2 : W.cell? ⟨w.heap.size, 2, none⟩ = some (.slice A os.length c) := kW.cell 2
  have HS := hid hsW
  have HR := hid hrW
  have HO := hid hoW
  have HD := hid hd
  have HOK := hid hok
  have HLW := hid lW
  have HK := hid kW
  clear h hr ho lW kW hsW hrW hoW hd hok hck
  go_enter Tryz.func174, Tryz.ntmps174
  go_upto_region 1 with fail
  rw [← hW]
  clear hW
  go_wp2_with (first | (go_at_call 180; (with_reducible refine hn1.mono ?_); rintro e' w1 ⟨rfl, rfl⟩) | (go_at_call 161; refine stop_ (fun Ps hPs => ?_)))
  refine hPs ?_
  clear hPs Ps
  refine hch.mono ?_
  rintro e' w1 ⟨rfl, hb1⟩
  have HB1 := hid hb1
  have hs1 : Sr w1 F z rz n cs := HS.out.mv (bmv hb1 F)
  have he1 := send182 hs1 (HR.out.mv (bmv hb1 H))
  have HS1 := hid hs1
  obtain ⟨tz, v, ms, inz, blk, tb, hms, cl⟩ := hs1
  obtain ⟨Ar, cr, rfl, q1, q2⟩ := cl.row.slice_
  obtain ⟨z0, z1, z2⟩ := scells blk
  have k1 : Blk w1 w.heap.size 88 (cmcs ep num A os.length c) := HK.out.later hb1
  have d0 : w1.cell? ⟨w.heap.size, 0, none⟩ = some (.int .i64 ep) := k1.cell 0
  have d1 : w1.cell? ⟨w.heap.size, 1, none⟩ = some (.int .i64 num) := k1.cell 1
  have d2 : w1.cell? ⟨w.heap.size, 2, none⟩ = some (.slice A os.length c) := k1.cell 2
  have hml : ms.length = cs.length := by rw [← hms]; simp
  have hnw : IntKind.i64.wrap (num - 1) = (cs.length : Int) := (IntWalk.i64_in _ (by omega)).trans hnum
  have hnq : ((cs.length : Int) != (cs.length : Int)) = false := by simp
  have HN := hid hnum
  have HE : Hid (∀ d, Calls Tryz.prog 182 #[P z] (w1.drewN d) fun e w' => e = .returned (.int .i64 (cs.length : Nat)) ∧ ∃ m, w' = w1.drewN m) := hid fun d => (send182 (w := w1.drewN d) (HS1.out.mv (bmv (drewN_below w1 d) F)) ((HR.out.mv (bmv hb1 H)).mv (bmv (drewN_below w1 d) H))).mono fun _ _ ⟨he, m, hm⟩ => ⟨he, d + m, by rw [hm, World.drewN_drewN]⟩
  have HEP := hid hep
  have HTK : Hid (∀ d, Calls Tryz.prog 187 #[P z, cmv ep num A os.length c] (w1.drewN d) (STook F z rz (n + os.length) (cs ++ [⟨ep, num, os⟩]) (w1.drewN d))) := hid fun d => stake187 (HS1.out.mv (bmv (drewN_below w1 d) F)) ((HO.out.later hb1).later (drewN_below w1 d)).rdf rfl HD.out HOK.out (by omega) hkc.1 (by omega) (by omega)
  have hend : ∀ d e' w2, STook F z rz (n + os.length) (cs ++ [⟨ep, num, os⟩]) (w1.drewN d) e' w2 → ∃ F', Sr w2 F' z rz (n + os.length) (cs ++ [⟨ep, num, os⟩]) ∧ Mod F w w2 ∧ Sub w F F' := fun d e' w2 h => by
    obtain ⟨_, F', h1, h2, h3⟩ := h
    have hlat : Lat w (w1.drewN d) := (HLW.out.below HB1.out).drewN d
    exact ⟨F', h1, (hlat.mod F).trans_ h2, fun i hi => (h3 i hi).imp id fun h => Nat.le_trans hlat.size h⟩
  have HEND := hid hend
  clear hend hb1 he1 hn1 hch inz tb hnum k1 hep
  unfold maxLen at q2
  rcases Nat.eq_zero_or_pos ms.length with h0 | h0
  · rw [h0] at z2
    clear blk cl hms hml h0
    go_wp2_with fail
    go_quiet ((go_at_call 182; with_reducible exact HE.out _))
    all_goals go_wp2_with (go_at_call 187; refine stop_ (fun Ps hPs => ?_))
    all_goals
      refine hPs ?_
      clear hPs Ps
      refine (HTK.out _).mono ?_
      rintro e' w2 h2
      have h3 := HEND.out _ _ _ h2
      obtain ⟨⟨v2, rfl⟩, _⟩ := h2
      have H3 := hid h3
      clear h3
      go_wp2_with fail
      go_ret
      exact ⟨rfl, H3.out⟩
  · obtain ⟨m, hm, hme⟩ := lastEp_cm hms h0
    obtain ⟨g, off, rfl, _, hc⟩ := cl.row.rdf.2 (by have := cl.row.1; omega)
    have k0 := hc _ _ (cmc_get ms _ m hm).1
    have hlt : ¬ep < m.ep := by have := HEP.out; rw [hme]; omega
    have hlt2 : m.ep ≤ ep := by omega
    obtain ⟨q, hq⟩ : ∃ q, q = ms.length := ⟨_, rfl⟩
    rw [← hq] at q1 h0 k0 z2
    have hw2 : IntKind.i64.wrap ((q : Int) - 1) = (q : Int) - 1 := IntWalk.i64_in _ (by omega)
    have hn1 : (1 : Int) ≤ (q : Int) := by omega
    have hn2 : (q : Int) - 1 < (q : Int) := by omega
    have hn3 : (0 : Int) < (q : Int) := by omega
    have hd1 : decide ((0 : Int) < (q : Int)) = true := decide_eq_true hn3
    have hd2 : decide (ep < m.ep) = false := decide_eq_false hlt
    have hd3 : decide (0 < q) = true := decide_eq_true h0
    clear blk cl hms hm hme hc hq hml
    go_wp2_with fail
    go_quiet ((go_at_call 182; with_reducible exact HE.out _))
    all_goals go_wp2_with (go_at_call 187; refine stop_ (fun Ps hPs => ?_))
    all_goals
      refine hPs ?_
      clear hPs Ps
      refine (HTK.out _).mono ?_
      rintro e' w2 h2
      have h3 := HEND.out _ _ _ h2
      obtain ⟨⟨v2, rfl⟩, _⟩ := h2
      have H3 := hid h3
      clear h3
      go_wp2_with fail
      go_ret
      exact ⟨rfl, H3.out⟩
end Go.Proofs.YtbpnbcjgkbpmgaaGreat
namespace Go.Proofs.YtbpnbcjgkbpmgaaGreat
open Go.RowKit Go.Lg Go.Shelf St Ea
set_option linter.unusedVariables false
set_option linter.unusedSimpArgs false
attribute [local go_sem] Oper.semAt_some
set_option maxHeartbeats 1000000 in
set_option maxRecDepth 100000 in
theorem back217 (w : World) : Calls Tryz.prog 217 #[.slice none 0 0] w fun e w' => e = .returned (.func (.func 240) #[] #[P w.heap.size]) ∧ w' = w.alloc (.cells #[.slice none 0 0] 228) := by
  go_enter Tryz.func217, Tryz.ntmps217
  go_wp2_with fail
  go_ret
  exact ⟨rfl, rfl⟩
structure G0 (w : World) (W : World) : Prop where
  b : Below w.heap.size w W
  k1 : ∃ x, Blk W (w.heap.size + 1) 9 #[x]
  k2 : ∃ x, Blk W (w.heap.size + 2) 4 #[x]
  k3 : ∃ x, Blk W (w.heap.size + 3) 4 #[x]
theorem own_g0 {w : World} {B : Nat} (hB : w.heap.size ≤ B) {α : Type} : OwnFrom B (fun (_ : List α) W => G0 w W) := fun s W W' row h hg hr => by
  obtain ⟨b, ⟨x1, k1⟩, ⟨x2, k2⟩, ⟨x3, k3⟩⟩ := h
  exact ⟨b.grown hg b.size fun r e => Nat.le_trans hB (hr r e).1, ⟨x1, Blk.notc k1 hg fun r e => (hr r e).2⟩, ⟨x2, Blk.notc k2 hg fun r e => (hr r e).2⟩, ⟨x3, Blk.notc k3 hg fun r e => (hr r e).2⟩⟩
set_option maxRecDepth 100000 in
set_option maxHeartbeats 4000000 in
theorem back240 (n : Nat) (hn : 1 ≤ n) (B : Nat) (w : World) (hc : w.cell? ⟨B, 0, none⟩ = some (.slice none 0 0)) (hB : B < w.heap.size) :
    Hands Fence.wide n Tryz.prog 240 #[P B] (fun x : Empty => x.elim) (fun _ _ => True) (fun _ _ => True) (fun xs => xs = []) (fun _ => False) 0 w := fun l J Jx W hW hJ hJx _ h0 => by
  have c0 : W.cell? ⟨B, 0, none⟩ = some (.slice none 0 0) := (hW.cell (p := ⟨B, 0, none⟩) hB).trans hc
  refine callsIn_of_wp Tryz.func240 rfl trivial ?_ rfl
  simp only [Tryz.ntmps240, List.size_toArray, List.length_cons, List.length_nil, Nat.reduceAdd, Nat.reduceSub, Array.replicate_succ, Array.replicate_zero, List.push_toArray, List.append_toArray, List.nil_append, List.cons_append]
  gi_wp2
  gi_loopw [3] (fun i wr => i = .int .i64 (-1) ∧ wr = W) (fun _ _ => 0)
  case atStart => exact ⟨by rfl, rfl⟩
  case round =>
    obtain ⟨rfl, rfl⟩ := hrel
    gi_wp2
    exact ⟨rfl, _, results_none rfl _ _ _, ⟨_, rfl⟩, .inl ⟨[], rfl, h0⟩⟩
def RGet (w : World) (e : Ending) (w' : World) : Prop := e = .returned (.tuple #[.string ⟨#[]⟩, .bool false, .bool false]) ∧ Below w.heap.size w w'
set_option maxRecDepth 100000 in
set_option maxHeartbeats 4000000 in
theorem rget181 {w : World} {F : Fp} {z dz : Nat} (h : R0 w F z dz) (key : ByteArray) : Calls Tryz.prog 181 #[P z, .string key] w (RGet w) := by
  refine (callsIn_wide (n := 3)).1 ?_
  have hro : Fence.wide.round = none := rfl
  have h1 : 1 ≤ 3 := by omega
  obtain ⟨W, hW⟩ : ∃ W, W = (((w.alloc (.cells #[.string key] 9)).alloc (.cells #[.string ⟨#[]⟩] 9)).alloc (.cells #[.bool false] 4)).alloc (.cells #[.bool false] 4) := ⟨_, rfl⟩
  have hb0 : Below w.heap.size w W := by rw [hW]; exact ((((Below.refl _ _).alloc (Nat.le_refl _) _).alloc (by simp) _).alloc (by simp; omega) _).alloc (by simp; omega) _
  have hsz : W.heap.size = w.heap.size + 4 := by rw [hW]; simp
  have k1 : Blk W (w.heap.size + 1) 9 #[.string ⟨#[]⟩] := by
    have := ((Blk.new (w.alloc (.cells #[.string key] 9)) 9 #[.string ⟨#[]⟩]).alloc (.cells #[.bool false] 4)).alloc (.cells #[.bool false] 4)
    rw [World.size_alloc] at this
    rw [hW]; exact this
  have k2 : Blk W (w.heap.size + 2) 4 #[.bool false] := by
    have := (Blk.new ((w.alloc (.cells #[.string key] 9)).alloc (.cells #[.string ⟨#[]⟩] 9)) 4 #[.bool false]).alloc (.cells #[.bool false] 4)
    rw [World.size_alloc, World.size_alloc] at this
    rw [hW]; exact this
  have k3 : Blk W (w.heap.size + 3) 4 #[.bool false] := by
    have := Blk.new (((w.alloc (.cells #[.string key] 9)).alloc (.cells #[.string ⟨#[]⟩] 9)).alloc (.cells #[.bool false] 4)) 4 #[.bool false]
    rw [World.size_alloc, World.size_alloc, World.size_alloc] at this
    rw [hW]; exact this
  have hW0 : R0 W F z dz := h.mv (bmv hb0 F)
  have hn := rnone168 hW0
  obtain ⟨c0, c1, c2⟩ := rcells hW0.blk
  have HG : Hid (G0 w (W.alloc (.cells #[.slice none 0 0] 228))) := hid ⟨hb0.alloc hb0.size _, ⟨_, k1.alloc _⟩, ⟨_, k2.alloc _⟩, ⟨_, k3.alloc _⟩⟩
  have HSZ := hid hsz
  clear k1 k2 k3 hb0 hsz hW0 h
  refine callsIn_of_wp_marks Tryz.func181 rfl trivial ?_ hro
  simp only [Tryz.ntmps181, List.size_toArray, List.length_cons, List.length_nil, Nat.reduceAdd, Nat.reduceSub, Array.replicate_succ, Array.replicate_zero, List.push_toArray, List.append_toArray, List.nil_append, List.cons_append]
  refine wpIn_wide.2 ?_
  go_upto_region 1 with fail
  rw [← hW]
  clear hW
  go_wp2_with (first | (go_at_call 168; (with_reducible refine hn.mono ?_); rintro e' w1 ⟨rfl, rfl⟩) | (go_at_call 217; (with_reducible refine (back217 _).mono ?_); rintro e' w2 ⟨rfl, rfl⟩))
  refine (wpIn_wide (n := 3)).1 ?_
  refine range_hands hro h1 (gf := 240) (lb := #[P W.heap.size]) rfl trivial (enters_of Tryz.func240 (by kernel_rfl) rfl)
    (back240 2 (by omega) W.heap.size (W.alloc (.cells #[.slice none 0 0] 228)) ((Blk.new W 228 #[.slice none 0 0]).cell 0) (by simp)) (fun _ _ => trivial) (fun _ _ _ _ _ _ _ _ => trivial) (fun x => x.elim)
    (fun _ W' => G0 w W') (fun _ _ _ => False) (own_g0 (by have := HSZ.out; simp; omega)) (fun _ _ _ _ _ h _ _ => h.elim) (fun x => x.elim) HG.out (fun x => x.elim) (fun _ x => x.elim) (fun _ _ x => x.elim) ?done1 (fun _ _ _ _ _ h => h.elim)
  case done1 =>
    rintro D1 ys Wq hD hys ⟨hb, ⟨x1, k1⟩, ⟨x2, k2⟩, ⟨x3, k3⟩⟩ hK
    have hDs : w.heap.size + 4 < D1 := by have := HSZ.out; simp at hD; omega
    have z1 : Wq.cell? ⟨w.heap.size + 1, 0, none⟩ = some x1 := k1.cell 0
    have f1 : Wq.frozen? ⟨w.heap.size + 1, 0, none⟩ = false := k1.frozen 0
    have z2 : Wq.cell? ⟨w.heap.size + 1 + 1, 0, none⟩ = some x2 := k2.cell 0
    have f2 : Wq.frozen? ⟨w.heap.size + 1 + 1, 0, none⟩ = false := k2.frozen 0
    have z3 : Wq.cell? ⟨w.heap.size + 1 + 1 + 1, 0, none⟩ = some x3 := k3.cell 0
    have f3 : Wq.frozen? ⟨w.heap.size + 1 + 1 + 1, 0, none⟩ = false := k3.frozen 0
    have e1 : Blk (((Wq.setCell ⟨w.heap.size + 1, 0, none⟩ (.string ⟨#[]⟩)).setCell ⟨w.heap.size + 1 + 1, 0, none⟩ (.bool false)).setCell ⟨w.heap.size + 1 + 1 + 1, 0, none⟩ (.bool false)) (w.heap.size + 1) 9 #[.string ⟨#[]⟩] := ((k1.set_ 0 _).far (by dsimp only; omega) _).far (by dsimp only; omega) _
    have e2 : Blk (((Wq.setCell ⟨w.heap.size + 1, 0, none⟩ (.string ⟨#[]⟩)).setCell ⟨w.heap.size + 1 + 1, 0, none⟩ (.bool false)).setCell ⟨w.heap.size + 1 + 1 + 1, 0, none⟩ (.bool false)) (w.heap.size + 1 + 1) 4 #[.bool false] := ((k2.far (by dsimp only; omega) _).set_ 0 _).far (by dsimp only; omega) _
    have e3 : Blk (((Wq.setCell ⟨w.heap.size + 1, 0, none⟩ (.string ⟨#[]⟩)).setCell ⟨w.heap.size + 1 + 1, 0, none⟩ (.bool false)).setCell ⟨w.heap.size + 1 + 1 + 1, 0, none⟩ (.bool false)) (w.heap.size + 1 + 1 + 1) 4 #[.bool false] := ((k3.far (by dsimp only; omega) _).far (by dsimp only; omega) _).set_ 0 _
    have hD3 : (((Wq.setCell ⟨w.heap.size + 1, 0, none⟩ (.string ⟨#[]⟩)).setCell ⟨w.heap.size + 1 + 1, 0, none⟩ (.bool false)).setCell ⟨w.heap.size + 1 + 1 + 1, 0, none⟩ (.bool false)).heap[D1]? = some (.deferred (some [])) := by
      rw [Below.heap_setCell _ _ _ _ (by dsimp only; omega), Below.heap_setCell _ _ _ _ (by dsimp only; omega), Below.heap_setCell _ _ _ _ (by dsimp only; omega)]; exact hK
    have hb3 := ((hb.setCell (p := ⟨w.heap.size + 1, 0, none⟩) (by dsimp only; omega) (.string ⟨#[]⟩)).setCell (p := ⟨w.heap.size + 1 + 1, 0, none⟩) (by dsimp only; omega) (.bool false)).setCell (p := ⟨w.heap.size + 1 + 1 + 1, 0, none⟩) (by dsimp only; omega) (.bool false)
    have E1 := hid e1
    have E2 := hid e2
    have E3 := hid e3
    have HD3 := hid hD3
    have HB3 := hid hb3
    clear e1 e2 e3 hD3 hb3 k1 k2 k3 hK hb hys HG
    go_wp2_with fail
    obtain ⟨W5, hW5⟩ : ∃ W5, W5 = (((Wq.setCell ⟨w.heap.size + 1, 0, none⟩ (.string ⟨#[]⟩)).setCell ⟨w.heap.size + 1 + 1, 0, none⟩ (.bool false)).setCell ⟨w.heap.size + 1 + 1 + 1, 0, none⟩ (.bool false)) := ⟨_, rfl⟩
    rw [← hW5] at E1 E2 E3 HD3 HB3 ⊢
    clear hW5
    have g1 : (W5.putObj D1 (.deferred none)).cell? ⟨w.heap.size + 1, 0, none⟩ = some (.string ⟨#[]⟩) := by
      rw [World.cell?_of_block (a := ⟨w.heap.size + 1, 0, none⟩) (World.putObj_heap_other (by dsimp only; omega))]; exact E1.out.cell 0
    have g2 : (W5.putObj D1 (.deferred none)).cell? ⟨w.heap.size + 1 + 1, 0, none⟩ = some (.bool false) := by
      rw [World.cell?_of_block (a := ⟨w.heap.size + 1 + 1, 0, none⟩) (World.putObj_heap_other (by dsimp only; omega))]; exact E2.out.cell 0
    have g3 : (W5.putObj D1 (.deferred none)).cell? ⟨w.heap.size + 1 + 1 + 1, 0, none⟩ = some (.bool false) := by
      rw [World.cell?_of_block (a := ⟨w.heap.size + 1 + 1 + 1, 0, none⟩) (World.putObj_heap_other (by dsimp only; omega))]; exact E3.out.cell 0
    refine ⟨by simp, .inl ⟨_, _, rfl, run_takeDeferred (by exact HD3.out), ?_⟩⟩
    refine ⟨.tuple #[.string ⟨#[]⟩, .bool false, .bool false], ?_, rfl, ?_⟩
    · simp [results, Tryz.results181, Tryz.f181, go_sem, g1, g2, g3]
    · exact HB3.out.grown (grownBy_putObj' _ D1 _) HB3.out.size fun r e => by cases e; omega
end Go.Proofs.YtbpnbcjgkbpmgaaGreat
