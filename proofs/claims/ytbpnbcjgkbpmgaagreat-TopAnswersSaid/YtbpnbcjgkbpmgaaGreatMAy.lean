/- A primary answers without waiting for the other site, as many times as its leash allows: of any acts. No condition. (part 25) -/
import Derived.RegionTactic
import Derived.ChangeAlike
import Derived.BigRegion
import Derived.Test.YtbpnbcjgkbpmgaaGreatMAd
import Derived.Test.YtbpnbcjgkbpmgaaGreatMAx
namespace Go.Proofs.YtbpnbcjgkbpmgaaGreat.St
open Go.RowKit Go.Lg
set_option linter.unusedVariables false
set_option linter.unusedSimpArgs false
theorem T22 : SlT Tryz.prog 145 198 2 16 := SlT.mk' (.agg #[.int .i64 0, .int .i64 0]) Tryz.underlying145 (by kernel_rfl) rfl (by decide) (by decide)
theorem sts_snoc (l : List (Int × Int)) (x y : Int) : sts (l ++ [(x, y)]) = sts l ++ (#[.int .i64 x, .int .i64 y] : Array Value).toList := by simp [sts]
def NewS (l : List (Int × Int)) (w : World) (e : Ending) (w' : World) : Prop := ∃ v, e = .returned v ∧ w'.ownsRow w.heap.size 198 2 v l.length (sts l) ∧ Below w.heap.size w w'
theorem SS.of_own {w : World} {base c : Nat} {A : Option Addr} {l : List (Int × Int)} (h : w.ownsRow base 198 2 (.slice A l.length c) l.length (sts l)) : SS w w.heap.size A l.length l := ⟨Rd.of_own h, rfl⟩
def trim (l : List (Int × Int)) (e m : Int) : List (Int × Int) × Int := if Sl.ok l e then (if 0 ≤ m ∧ m ≤ e then (l.take (Sl.cnt l m), 0) else ([], 2)) else ([], 5)
def Trims (r : List (Int × Int) × Int) (w : World) (e : Ending) (w' : World) : Prop := ∃ v, e = .returned (.tuple #[v, .int .i64 r.2]) ∧ w'.ownsRow w.heap.size 198 2 v r.1.length (sts r.1) ∧ Below w.heap.size w w'
theorem take_snoc {l : List (Int × Int)} {j : Nat} (h : j < l.length) : l.take (j + 1) = l.take j ++ [(Sl.E l j, Sl.F l j)] := by
  have e1 : (Sl.E l j, Sl.F l j) = l[j] := by simp [Sl.E, Sl.F, h]
  rw [List.take_succ_eq_append_getElem h, e1]
end Go.Proofs.YtbpnbcjgkbpmgaaGreat.St
namespace Go.Proofs.YtbpnbcjgkbpmgaaGreat.St
open Go.RowKit Go.Lg
set_option linter.unusedVariables false
set_option linter.unusedSimpArgs false
def ints (xs : List Int) : List Value := xs.map (Value.int .i64)
def prs : List Int → List (Int × Int)
  | a :: b :: r => (a, b) :: prs r
  | _ => []
theorem own_drewN {w : World} {B : Nat} {e : TypeId} {sz n : Nat} {v : Value} {xs : List Value} (h : w.ownsRow B e sz v n xs) (d : Nat) : (w.drewN d).ownsRow B e sz v n xs := h
end Go.Proofs.YtbpnbcjgkbpmgaaGreat.St
namespace Go.Proofs.YtbpnbcjgkbpmgaaGreat.St
open Go.RowKit Go.Lg
set_option linter.unusedVariables false
set_option linter.unusedSimpArgs false
def gr (l : List (Int × Int)) (ep num : Int) : List (Int × Int) := if 0 < l.length ∧ Sl.E l (l.length - 1) = ep then l else l ++ [(ep, num)]
def Own (B : Nat) (l : List (Int × Int)) (w : World) (e : Ending) (w' : World) : Prop := ∃ v, e = .returned v ∧ w'.ownsRow B 198 2 v l.length (sts l) ∧ Below B w w'
theorem own_eq {B n : Nat} {l l2 : List (Int × Int)} {v : Value} {w w' : World} (h : l = l2) (hn : n = l2.length) (ho : w'.ownsRow B 198 2 v n (sts l2)) (hb : Below B w w') : Own B l w (.returned v) w' := by
  subst h hn
  exact ⟨_, rfl, ho, hb⟩
set_option maxHeartbeats 2000000 in
set_option maxRecDepth 100000 in
theorem grown38 (B : Nat) (v : Value) (n : Nat) (l : List (Int × Int)) (m : Cm) (w : World) (ho : w.ownsRow B 198 2 v n (sts l)) (hl : l.length = n) (hB : B ≤ w.heap.size) (hn : n ≤ 100000) :
    Calls Tryz.prog 239 #[v, m.v] w (Own B (gr l m.ep m.num) w) := by
  obtain ⟨me, mn, Ao, no, co, os⟩ := m
  obtain ⟨A, c, rfl, g1, g2⟩ := owned_slice ho
  have hs : SS w w.heap.size A n l := ⟨Rd.of_own ho, hl⟩
  have kb := Blk.new w 88 #[.int .i64 me, .int .i64 mn, .slice Ao no co]
  have hb1 := (Below.refl B w).alloc hB (.cells #[.int .i64 me, .int .i64 mn, .slice Ao no co] 88)
  have ho1 := ho.alloc (.cells #[.int .i64 me, .int .i64 mn, .slice Ao no co] 88)
  obtain ⟨W, hW⟩ : ∃ W, W = w.alloc (.cells #[.int .i64 me, .int .i64 mn, .slice Ao no co] 88) := ⟨_, rfl⟩
  have hs1 := hs.keep ((Below.refl w.heap.size w).alloc (Nat.le_refl _) (.cells #[.int .i64 me, .int .i64 mn, .slice Ao no co] 88))
  rw [← hW] at kb hb1 ho1 hs1
  have b0 : W.cell? ⟨w.heap.size, 0, none⟩ = some (.int .i64 me) := kb.cell 0
  have b1 : W.cell? ⟨w.heap.size, 1, none⟩ = some (.int .i64 mn) := kb.cell 1
  have HO := hid ho1
  have HB1 := hid hb1
  have hBW : B ≤ W.heap.size := by rw [hW]; simp; omega
  have HL := hid hl
  clear kb hb1 ho1 ho hl
  by_cases hc : 0 < n ∧ Sl.E l (n - 1) = me
  · have HR : Hid (gr l me mn = l) := by unfold gr; rw [HL.out, if_pos hc]; exact hid rfl
    obtain ⟨h1, h2⟩ := hc
    obtain ⟨b, off, rfl, hbB, c0, c1⟩ := hs1.at_ (j := n - 1) (by omega)
    rw [h2] at c0
    have d1 : decide ((0 : Int) < (n : Int)) = true := decide_eq_true (by omega)
    have d2 : decide (0 < n) = true := decide_eq_true h1
    have d3 : (0 : Int) < (n : Int) := by omega
    have hw1 : wrap64 ((n : Int) - 1) = (n : Int) - 1 := by simp only [wrap64]; omega
    have hw2 : IntKind.i64.wrap ((n : Int) - 1) = (n : Int) - 1 := IntWalk.i64_in _ (by omega)
    have hn1 : (1 : Int) ≤ (n : Int) := by omega
    have hn2 : (n : Int) - 1 < (n : Int) := by omega
    clear h2 hs hs1
    go_enter Tryz.func239, Tryz.ntmps239
    go_wp2_with fail
    rw [← hW]
    clear hW
    go_quiet (fail)
    go_wp2_with fail
    go_ret
    exact own_eq (l2 := l) HR.out HL.out.symm HO.out (below_drewN HB1.out _)
  · have HR : Hid (gr l me mn = l ++ [(me, mn)]) := by unfold gr; rw [HL.out, if_neg hc]; exact hid rfl
    have HST : Hid (sts (l ++ [(me, mn)]) = sts l ++ (#[.int .i64 me, .int .i64 mn] : Array Value).toList) := sts_snoc l me mn
    have HLN : Hid (n + 1 = (l ++ [(me, mn)]).length) := by rw [List.length_append, HL.out]; exact hid rfl
    have fin : ∀ d, Code.wp Tryz.prog (Code.region 3 #[] false) (fun _ _ _ => True) { tmps := #[], defers := [] } (W.drewN d) → True := fun _ _ => trivial
    clear fin
    by_cases h1 : 0 < n
    · obtain ⟨b, off, rfl, hbB, c0, c1⟩ := hs1.at_ (j := n - 1) (by omega)
      have h2 : ¬Sl.E l (n - 1) = me := fun h => hc ⟨h1, h⟩
      obtain ⟨x, hx⟩ : ∃ x, x = Sl.E l (n - 1) := ⟨_, rfl⟩
      rw [← hx] at c0 h2
      have d4 : (x == me) = false := by simp [h2]
      have d1 : decide ((0 : Int) < (n : Int)) = true := decide_eq_true (by omega)
      have d2 : decide (0 < n) = true := decide_eq_true h1
      have d3 : (0 : Int) < (n : Int) := by omega
      have hw1 : wrap64 ((n : Int) - 1) = (n : Int) - 1 := by simp only [wrap64]; omega
      have hw2 : IntKind.i64.wrap ((n : Int) - 1) = (n : Int) - 1 := IntWalk.i64_in _ (by omega)
      have hn1 : (1 : Int) ≤ (n : Int) := by omega
      have hn2 : (n : Int) - 1 < (n : Int) := by omega
      clear hc h2 hx hs hs1
      go_enter Tryz.func239, Tryz.ntmps239
      go_wp2_with fail
      rw [← hW]
      clear hW
      go_quiet (fail)
      have HO2 := hid (own_drewN HO.out nq)
      have HB2 := hid (below_drewN HB1.out nq)
      go_wp2_with (at_builtin; refine stop_ (fun Ps hPs => ?_))
      refine hPs ?_
      clear hPs Ps
      refine wpList_app1 T22 (.tmp 22) (.tmp 28) rfl rfl HO2.out rfl rfl rfl (by simp [Value.oneCell']) (by omega) hBW fun v' w3 ho3 hg hat => ?_
      have hb3 := below_append HB2.out HO2.out hg hBW
      rw [← HST.out] at ho3
      have HO3 := hid ho3
      clear hg hat ho3
      go_wp2_with fail
      go_ret
      exact own_eq HR.out HLN.out HO3.out hb3
    · have hz : n = 0 := by omega
      have d1 : decide ((0 : Int) < (n : Int)) = false := decide_eq_false (by omega)
      have d2 : decide (0 < n) = false := decide_eq_false h1
      have d3 : (n : Int) ≤ 0 := by omega
      clear hc hz hs hs1
      go_enter Tryz.func239, Tryz.ntmps239
      go_wp2_with fail
      rw [← hW]
      clear hW
      go_quiet (fail)
      have HO2 := hid (own_drewN HO.out nq)
      have HB2 := hid (below_drewN HB1.out nq)
      go_wp2_with (at_builtin; refine stop_ (fun Ps hPs => ?_))
      refine hPs ?_
      clear hPs Ps
      refine wpList_app1 T22 (.tmp 22) (.tmp 28) rfl rfl HO2.out rfl rfl rfl (by simp [Value.oneCell']) (by omega) hBW fun v' w3 ho3 hg hat => ?_
      have hb3 := below_append HB2.out HO2.out hg hBW
      rw [← HST.out] at ho3
      have HO3 := hid ho3
      clear hg hat ho3
      go_wp2_with fail
      go_ret
      exact own_eq HR.out HLN.out HO3.out hb3
end Go.Proofs.YtbpnbcjgkbpmgaaGreat.St
namespace Go.Proofs.YtbpnbcjgkbpmgaaGreat.St
open Go.RowKit Go.Lg
set_option linter.unusedVariables false
set_option linter.unusedSimpArgs false
def tl (cs : List Cm) : List (Int × Int) := cs.foldl (fun acc m => gr acc m.ep m.num) []
theorem tl_snoc (cs : List Cm) (m : Cm) : tl (cs ++ [m]) = gr (tl cs) m.ep m.num := by simp [tl]
theorem gr_le (l : List (Int × Int)) (ep num : Int) : (gr l ep num).length ≤ l.length + 1 := by
  unfold gr
  split
  · omega
  · simp
theorem tl_le (cs : List Cm) : (tl cs).length ≤ cs.length := by
  have key : ∀ (cs : List Cm) (acc : List (Int × Int)), (cs.foldl (fun acc m => gr acc m.ep m.num) acc).length ≤ acc.length + cs.length := by
    intro cs
    induction cs with
    | nil => intro acc; simp
    | cons m cs ih =>
      intro acc
      have h1 := ih (gr acc m.ep m.num)
      have h2 := gr_le acc m.ep m.num
      simp only [List.foldl_cons, List.length_cons]
      omega
  simpa [tl] using key cs []
theorem owned_gb_far' {w w' : World} {g H : Nat} {e : TypeId} {sz n : Nat} {v : Value} {xs : List Value} (h : w.ownsRow H e sz v n xs) (hg : w.grownBy w' (some g)) (hlt : g < H) : w'.ownsRow H e sz v n xs :=
  owned_gb h hg fun k hk he => by have := (h.lt k hk).1; have := Option.some.inj he; omega
def OfIs (L : List (Int × Int)) (w : World) (e : Ending) (w' : World) : Prop := ∃ v, e = .returned (.tuple #[v, .agg #[.int .i64 0, .int .i64 0]]) ∧ w'.ownsRow w.heap.size 198 2 v L.length (sts L) ∧ Below w.heap.size w w'
set_option maxHeartbeats 4000000 in
set_option maxRecDepth 100000 in
theorem of24_ok (A : Option Addr) (n c : Nat) (cs : List Cm) (w : World) (h : CS w w.heap.size A n cs) (hn : n ≤ 10000) (hf : fol 0 0 0 cs = (0, 0)) :
    Calls Tryz.prog 216 #[.slice A n c] w (OfIs (tl cs) w) := by
  have HL := hid h.2.1
  have kz := Blk.new w 190 #[.int .i64 0, .int .i64 0]
  have hb := (Below.refl w.heap.size w).alloc (Nat.le_refl _) (.cells #[.int .i64 0, .int .i64 0] 190)
  obtain ⟨W, hW⟩ : ∃ W, W = w.alloc (.cells #[.int .i64 0, .int .i64 0] 190) := ⟨_, rfl⟩
  have hWs : W.heap.size = w.heap.size + 1 := by rw [hW]; simp
  rw [← hW] at kz hb
  have hfo := follows37 A n c cs 0 0 W ((h.keep hb).more (by omega)) (by omega)
  rw [hf] at hfo
  have hfo : Calls Tryz.prog 112 #[.int .i64 0, .int .i64 0, .slice A n c] W fun e w' => e = .returned (.agg #[.int .i64 0, .int .i64 0]) ∧ Below W.heap.size W w' := hfo
  go_enter Tryz.func216, Tryz.ntmps216
  go_wp2_with (go_at_call 112; refine stop_ (fun Ps hPs => ?_))
  refine hPs ?_
  clear hPs Ps
  rw [← hW]
  clear hW
  refine hfo.mono ?_
  clear hfo
  rintro e w1 ⟨rfl, hb1⟩
  have kz := (kz.later hb1).alloc (.cells #[.int .i64 0, .int .i64 0] 190)
  have hs1 := hb1.size
  have hb := (bl_trans hb hb1 hb.size).alloc (by omega) (.cells #[.int .i64 0, .int .i64 0] 190)
  have kf := Blk.new w1 190 #[.int .i64 0, .int .i64 0]
  have f0 : (w1.alloc (.cells #[.int .i64 0, .int .i64 0] 190)).cell? ⟨w1.heap.size, 0, none⟩ = some (.int .i64 0) := kf.cell 0
  have hV9 : w.heap.size + 1 ≤ (w1.alloc (.cells #[.int .i64 0, .int .i64 0] 190)).heap.size := by simp; omega
  obtain ⟨V, hV⟩ : ∃ V, V = w1.alloc (.cells #[.int .i64 0, .int .i64 0] 190) := ⟨_, rfl⟩
  go_wp2_with fail
  rw [← hV] at kz hb hV9
  rw [← hV]
  clear hV kf f0
  go_loopg [5, 16] n (fun k v i wr => ∃ j : Nat, j ≤ n ∧ k = n - j ∧ i = .int .i64 j ∧ wr.ownsRow (w.heap.size + 1) 198 2 v (tl (cs.take j)).length (sts (tl (cs.take j))) ∧ Below w.heap.size w wr ∧ Blk wr w.heap.size 190 #[.int .i64 0, .int .i64 0] ∧ w.heap.size + 1 ≤ wr.heap.size)
  case atStart => exact ⟨0, by omega, rfl, rfl, World.ownsRow_nil _ _ _ _, hb, kz, hV9⟩
  case round =>
    clear hb kz hV9
    obtain ⟨j, hj, rfl, rfl, ho, hb, kz, hs⟩ := hrel
    have hsz := hb.size
    by_cases hlt : j < n
    · have hw := h.keep hb
      obtain ⟨b, off, me, mn, Ao, no, co, os, rfl, hbB, hcj, hos, hno, c0, c1, c2⟩ := hw.at_ hlt
      have hji : (j : Int) < (n : Int) := by omega
      have HTL : Hid (tl (cs.take (j + 1)) = gr (tl (cs.take j)) me mn) := by
        rw [take_succ_get? hcj, tl_snoc]
        exact hid rfl
      have hln : (tl (cs.take j)).length ≤ 10000 := by
        have := tl_le (cs.take j)
        rw [List.length_take] at this
        omega
      have ho2 := ho.alloc (.cells #[.int .i64 me, .int .i64 mn, .slice Ao no co] 88)
      have hg := grown38 (w.heap.size + 1) _ _ (tl (cs.take j)) ⟨me, mn, Ao, no, co, os⟩ (wr.alloc (.cells #[.int .i64 me, .int .i64 mn, .slice Ao no co] 88)) ho2 rfl (by simp; omega) (by omega)
      have hb2 := hb.alloc hsz (.cells #[.int .i64 me, .int .i64 mn, .slice Ao no co] 88)
      have kz2 := kz.alloc (.cells #[.int .i64 me, .int .i64 mn, .slice Ao no co] 88)
      obtain ⟨lj, hlj⟩ : ∃ l, l = tl (cs.take j) := ⟨_, rfl⟩
      rw [← hlj] at hg
      have HB2 := hid hb2
      have HK2 := hid kz2
      have HLJ := hid hlj
      have hs3 : w.heap.size + 1 ≤ (wr.alloc (.cells #[.int .i64 me, .int .i64 mn, .slice Ao no co] 88)).heap.size := by simp; omega
      have HS3 := hid hs3
      clear hw hcj hos ho ho2 hb hb2 kz kz2 hlj hs3
      go_wp2_with (go_at_call 239; refine stop_ (fun Ps hPs => ?_))
      refine hPs ?_
      clear hPs Ps
      refine hg.mono ?_
      clear hg
      rintro e w2 ⟨v2, rfl, ho3, hb3⟩
      have hb4 := HB2.out.trans (hb3.mono (by omega))
      have kz4 := HK2.out.below hb3 (Nat.lt_succ_self _)
      have hs4 := Nat.le_trans HS3.out hb3.size
      have HO3 := hid ho3
      have HB4 := hid hb4
      have HK4 := hid kz4
      clear ho3 hb3 hb4 kz4 c0 c1 c2
      go_wp2_with fail
      go_roundg (n - (j + 1))
      case measure => omega
      case rel =>
        refine ⟨j + 1, by omega, rfl, by go_num, ?_, HB4.out, HK4.out, hs4⟩
        rw [HTL.out, ← HLJ.out]
        exact HO3.out
    · obtain rfl : j = n := by omega
      have htk : cs.take j = cs := List.take_of_length_le (by rw [HL.out]; omega)
      rw [htk] at ho
      have hg2 := gb_setCell (p := ⟨w.heap.size, 1, none⟩) (.int .i64 0) (gb_setCell (p := ⟨w.heap.size, 0, none⟩) (.int .i64 0) (World.grownBy.refl wr (some w.heap.size)))
      have ho2 := owned_gb_far' ho hg2 (Nat.lt_succ_self _)
      have e0 : wr.cell? ⟨w.heap.size, 0, none⟩ = some (.int .i64 0) := kz.cell 0
      have e1 : wr.cell? ⟨w.heap.size, 1, none⟩ = some (.int .i64 0) := kz.cell 1
      have y0 := kz.frozen 0
      have y1 := kz.frozen 1
      have y2 : (wr.setCell ⟨w.heap.size, 0, none⟩ (.int .i64 0)).frozen? ⟨w.heap.size, 1, none⟩ = false := (kz.set_ 0 (.int .i64 0)).frozen 1
      have HO := hid (owned_less ho2 (Nat.le_succ w.heap.size))
      have HB := hid hb
      clear kz ho ho2 htk hg2 hb
      go_wp2_with fail
      refine bodyPost_ret (by simp [results, Tryz.results216, go_sem, e0, e1]; try rfl) rfl ?_
      exact ⟨_, rfl, HO.out, below_two HB.out (Nat.le_refl _) _ _⟩
end Go.Proofs.YtbpnbcjgkbpmgaaGreat.St
namespace Go.Proofs.YtbpnbcjgkbpmgaaGreat
open Go.RowKit Go.Lg Ds St
set_option linter.unusedVariables false
set_option linter.unusedSimpArgs false
abbrev msgc (k ep ro en : Int) (vS : Value) (fr pv : Int) (vC : Value) : Array Value := #[.int .i64 k, .int .i64 ep, .int .u8 ro, .int .i64 en, vS, .int .i64 fr, .int .i64 pv, vC]
abbrev nils : Value := .slice none 0 0
set_option maxHeartbeats 1000000 in
set_option maxRecDepth 100000 in
theorem lwithin162 (n lo hi : Int) (h1 : lo ≤ n) (h2 : n ≤ hi) (w : World) : Calls Tryz.prog 162 #[.int .i64 n, .int .i64 lo, .int .i64 hi] w (Asked true w) := by
  go_enter Tryz.func162, Tryz.ntmps162
  go_wp2_with fail
  all_goals first | omega | (go_ret; exact asked_eq rfl)
set_option maxHeartbeats 1000000 in
set_option maxRecDepth 100000 in
theorem lrole200 (r : Int) (h1 : 1 ≤ r) (h2 : r ≤ 3) (w : World) : Calls Tryz.prog 200 #[.int .u8 r] w (Asked true w) := by
  go_enter Tryz.func200, Tryz.ntmps200
  go_wp2_with fail
  all_goals first | omega | (go_ret; exact asked_eq rfl)
def Yea (w : World) (e : Ending) (w' : World) : Prop := e = .returned (.bool true) ∧ Below w.heap.size w w'
set_option maxHeartbeats 1000000 in
set_option maxRecDepth 100000 in
theorem lbare202 (k ep : Int) (w : World) : Calls Tryz.prog 202 #[.agg (msgc k ep 0 0 nils 0 0 nils)] w (Yea w) := by
  have hb : Below w.heap.size w (w.alloc (.cells (msgc k ep 0 0 nils 0 0 nils) 147)) := (Below.refl _ _).alloc (Nat.le_refl _) _
  go_enter Tryz.func202, Tryz.ntmps202
  go_wp2_with fail
  go_ret
  exact ⟨rfl, hb⟩
theorem mcells {w : World} {z : Nat} {k ep ro en fr pv : Int} {vS vC : Value} (h : Blk w z 147 (msgc k ep ro en vS fr pv vC)) :
    w.cell? ⟨z, 0, none⟩ = some (.int .i64 k) ∧ w.cell? ⟨z, 1, none⟩ = some (.int .i64 ep) ∧ w.cell? ⟨z, 2, none⟩ = some (.int .u8 ro) ∧ w.cell? ⟨z, 3, none⟩ = some (.int .i64 en) ∧ w.cell? ⟨z, 4, none⟩ = some vS ∧ w.cell? ⟨z, 5, none⟩ = some (.int .i64 fr) ∧ w.cell? ⟨z, 6, none⟩ = some (.int .i64 pv) ∧ w.cell? ⟨z, 7, none⟩ = some vC :=
  ⟨h.cell 0, h.cell 1, h.cell 2, h.cell 3, h.cell 4, h.cell 5, h.cell 6, h.cell 7⟩
set_option maxHeartbeats 2000000 in
set_option maxRecDepth 100000 in
theorem lhello163 {w : World} (k ep ro en : Int) {A : Option Addr} {n c : Nat} {l : List (Int × Int)} (hss : SS w w.heap.size A n l) (hok : Sl.ok l en) (r1 : 1 ≤ ro) (r2 : ro ≤ 3) (hlast : 0 < n → Sl.E l (n - 1) ≤ ep) (hn : n ≤ 100000) :
    Calls Tryz.prog 163 #[.agg (msgc k ep ro en (.slice A n c) 0 0 nils)] w (Yea w) := by
  obtain ⟨W, hW⟩ : ∃ W, W = w.alloc (.cells (msgc k ep ro en (.slice A n c) 0 0 nils) 147) := ⟨_, rfl⟩
  have lW : Lat w W := by rw [hW]; exact (Lat.refl w).alloc _
  have kW : Blk W w.heap.size 147 (msgc k ep ro en (.slice A n c) 0 0 nils) := by rw [hW]; exact Blk.new _ _ _
  have hsW := (hss.keep lW.b).more lW.size
  have hch := check11 A n c l en W hsW (by omega)
  rw [chk_ok hok] at hch
  obtain ⟨c0, c1, c2, c3, c4, c5, c6, c7⟩ := mcells kW
  have HSS := hid hsW
  have HLW := hid lW
  have HK := hid kW
  clear hss lW kW hsW
  go_enter Tryz.func163, Tryz.ntmps163
  go_upto_region 1 with fail
  rw [← hW]
  clear hW
  go_wp2_with (first | (go_at_call 200; (with_reducible refine (lrole200 ro r1 r2 _).mono ?_); rintro e' w1 ⟨rfl, rfl⟩) | (go_at_call 201; refine stop_ (fun Ps hPs => ?_)))
  refine hPs ?_
  clear hPs Ps c0 c1 c2 c3 c4 c5 c6 c7
  refine hch.mono ?_
  rintro e' w1 ⟨rfl, hb1⟩
  have k1 := HK.out.later hb1
  have l1 : Lat w w1 := HLW.out.below hb1
  obtain ⟨c0, c1, c2, c3, c4, c5, c6, c7⟩ := mcells k1
  have f2 : w1.frozen? ⟨w.heap.size, 2, none⟩ = false := k1.frozen 2
  have f3 : w1.frozen? ⟨w.heap.size, 3, none⟩ = false := k1.frozen 3
  have f4 : w1.frozen? ⟨w.heap.size, 4, none⟩ = false := k1.frozen 4
  have hs1 := HSS.out.keep hb1
  have HK1 := hid k1
  have HL1 := hid l1
  have fin : ∀ d, Blk ((((w1.drewN d).setCell ⟨w.heap.size, 2, none⟩ (.int .u8 0)).setCell ⟨w.heap.size, 3, none⟩ (.int .i64 0)).setCell ⟨w.heap.size, 4, none⟩ nils) w.heap.size 147 (msgc k ep 0 0 nils 0 0 nils) := fun d => ((Blk.set_ (w := w1.drewN d) k1 2 (.int .u8 0)).set_ 3 (.int .i64 0)).set_ 4 nils
  have finl : ∀ d, Lat w ((((w1.drewN d).setCell ⟨w.heap.size, 2, none⟩ (.int .u8 0)).setCell ⟨w.heap.size, 3, none⟩ (.int .i64 0)).setCell ⟨w.heap.size, 4, none⟩ nils) := fun d => Lat.setc (Nat.le_refl _) (Lat.setc (Nat.le_refl _) (Lat.setc (Nat.le_refl _) (l1.drewN d) _) _) _
  have FIN := hid fin
  have FINL := hid finl
  clear k1 l1 hb1 hch fin finl
  rcases Nat.eq_zero_or_pos n with h0 | h0
  · subst h0
    go_wp2_with fail
    go_quiet (fail)
    obtain ⟨d0, d1, d2, d3, d4, d5, d6, d7⟩ := mcells (FIN.out nq)
    go_wp2_with (go_at_call 202; (with_reducible refine (lbare202 k ep _).mono ?_); rintro e' w2 ⟨rfl, hb2⟩)
    go_ret
    exact ⟨rfl, ((FINL.out nq).below hb2).b⟩
  · obtain ⟨b, off, rfl, hbB, x0, x1⟩ := hs1.at_ (j := n - 1) (by omega)
    have hle := hlast h0
    have hw2 : IntKind.i64.wrap ((n : Int) - 1) = (n : Int) - 1 := IntWalk.i64_in _ (by omega)
    have hn1 : (1 : Int) ≤ (n : Int) := by omega
    have hn2 : (n : Int) - 1 < (n : Int) := by omega
    have hn3 : (0 : Int) < (n : Int) := by omega
    have hd1 : decide ((0 : Int) < (n : Int)) = true := decide_eq_true hn3
    have hd3 : decide (0 < n) = true := decide_eq_true h0
    obtain ⟨x, hx⟩ : ∃ x, x = Sl.E l (n - 1) := ⟨_, rfl⟩
    rw [← hx] at x0 hle
    have hnx : ¬ep < x := by omega
    have hd2 : decide (ep < x) = false := decide_eq_false hnx
    clear hx hlast hs1
    go_wp2_with fail
    go_quiet (fail)
    obtain ⟨d0, d1, d2, d3, d4, d5, d6, d7⟩ := mcells (FIN.out nq)
    go_wp2_with (go_at_call 202; (with_reducible refine (lbare202 k ep _).mono ?_); rintro e' w2 ⟨rfl, hb2⟩)
    go_ret
    exact ⟨rfl, ((FINL.out nq).below hb2).b⟩
end Go.Proofs.YtbpnbcjgkbpmgaaGreat
namespace Go.Proofs.YtbpnbcjgkbpmgaaGreat
open Go.RowKit Go.Lg Ds St
set_option linter.unusedVariables false
set_option linter.unusedSimpArgs false
attribute [local go_sem] field190
set_option maxHeartbeats 2000000 in
set_option maxRecDepth 100000 in
theorem lack165 {w : World} (k ep en : Int) (h1 : 0 ≤ en) (h2 : en ≤ 1048576) : Calls Tryz.prog 165 #[.agg (msgc k ep 0 en nils 0 0 nils)] w (Yea w) := by
  have lW : Lat w ((w.alloc (.cells (msgc k ep 0 0 nils 0 0 nils) 147))) := (Lat.refl w).alloc _
  have HB := hid lW
  clear lW
  go_enter Tryz.func165, Tryz.ntmps165
  go_wp2_with (first | (go_at_call 162; (with_reducible refine (lwithin162 en 0 1048576 h1 h2 _).mono ?_); rintro e' w1 ⟨rfl, rfl⟩) | (go_at_call 202; refine stop_ (fun Ps hPs => ?_)))
  refine hPs ?_
  clear hPs Ps
  refine (lbare202 k ep _).mono ?_
  rintro e' w2 ⟨rfl, hb2⟩
  have hl2 : Lat w w2 := by first | exact HB.out.below hb2 | exact (Lat.setc (Nat.le_refl _) ((Lat.refl w).alloc _) _).below hb2
  have HL := hid hl2
  clear hl2 hb2
  go_wp2_with fail
  go_ret
  exact ⟨rfl, HL.out.b⟩
set_option maxHeartbeats 2000000 in
set_option maxRecDepth 100000 in
theorem lship164 {w : World} (k ep fr pv : Int) {A : Option Addr} {n c : Nat} {ms : List Cm} (hcs : CS w w.heap.size A n ms) (f1 : 1 ≤ fr) (f2 : fr ≤ 1048576) (p1 : 0 ≤ pv) (p2 : pv ≤ ep) (hpf : pv = 0 ↔ fr = 1) (hn : n ≤ 4) (hfo : fol pv (fr - 1) 0 ms = (0, 0)) (hall : ∀ m ∈ ms, m.ep ≤ ep) :
    Calls Tryz.prog 164 #[.agg (msgc k ep 0 0 nils fr pv (.slice A n c))] w (Yea w) := by
  obtain ⟨W, hW⟩ : ∃ W, W = w.alloc (.cells (msgc k ep 0 0 nils fr pv (.slice A n c)) 147) := ⟨_, rfl⟩
  have lW : Lat w W := by rw [hW]; exact (Lat.refl w).alloc _
  have kW : Blk W w.heap.size 147 (msgc k ep 0 0 nils fr pv (.slice A n c)) := by rw [hW]; exact Blk.new _ _ _
  have hcW := (hcs.keep lW.b).more lW.size
  obtain ⟨b, hb1, hb2⟩ : ∃ b, (pv == 0) = b ∧ (fr == 1) = b := ⟨_, rfl, by rw [Bool.eq_iff_iff]; simp only [beq_iff_eq]; exact hpf.symm⟩
  have hfw : IntKind.i64.wrap (fr - 1) = fr - 1 := IntWalk.i64_in _ (by omega)
  have hfw2 := follows37 A n c ms pv (fr - 1) W hcW (by omega)
  rw [hfo] at hfw2
  obtain ⟨c0, c1, c2, c3, c4, c5, c6, c7⟩ := mcells kW
  have h4 : ¬(4 : Int) < (n : Int) := by omega
  have HCS := hid hcW
  have HLW := hid lW
  have HK := hid kW
  have HA := hid hall
  clear hcs lW kW hcW hfo hpf hall
  go_enter Tryz.func164, Tryz.ntmps164
  go_upto_region 1 with fail
  rw [← hW]
  clear hW
  go_wp2_with (first | (go_at_call 162; (with_reducible refine (lwithin162 fr 1 1048576 f1 f2 _).mono ?_); rintro e' w1 ⟨rfl, rfl⟩) | (go_at_call 162; (with_reducible refine (lwithin162 pv 0 ep p1 p2 _).mono ?_); rintro e' w1 ⟨rfl, rfl⟩) | (go_at_call 112; refine stop_ (fun Ps hPs => ?_)))
  refine hPs ?_
  clear hPs Ps c0 c1 c2 c3 c4 c5 c6 c7
  refine hfw2.mono ?_
  rintro e' w1 ⟨rfl, hb1'⟩
  have k1 := HK.out.later hb1'
  have l1 : Lat w w1 := HLW.out.below hb1'
  obtain ⟨c0, c1, c2, c3, c4, c5, c6, c7⟩ := mcells k1
  have HK1 := hid k1
  have HL1 := hid l1
  have HC1 := hid (HCS.out.keep hb1')
  have HWS := hid hb1'.size
  clear k1 l1 hb1' hfw2
  go_wp2_with fail
  go_loopg [45] n (fun g i wr => ∃ j : Nat, j ≤ n ∧ g = n - j ∧ i = .int .i64 j ∧ Hid (Lat w1 wr))
  case atStart => exact ⟨0, by omega, rfl, rfl, hid (Lat.refl _)⟩
  case round =>
    obtain ⟨j, hj, rfl, rfl, hl⟩ := hrel
    have kr := hl.out.blk HK1.out
    obtain ⟨d0, d1, d2, d3, d4, d5, d6, d7⟩ := mcells kr
    by_cases hlt : j < n
    · obtain ⟨bb, off, ep', num, A1, n1, k1, os, rfl, hbB, hm, hos, hn1, x0, x1, x2⟩ := (HC1.out.keep (hl.out.b.mono HWS.out)).at_ hlt
      have hji : (j : Int) < (n : Int) := by omega
      have hle : ep' ≤ ep := HA.out _ (List.mem_of_getElem? hm)
      have hnx : ¬ep < ep' := by omega
      have hl2 : Lat w1 (wr.alloc (.cells (cmcs ep' num A1 n1 k1) 88)) := hl.out.alloc _
      have e1 : (wr.alloc (.cells #[.int .i64 ep', .int .i64 num, .slice A1 n1 k1] 88)).cell? ⟨w.heap.size, 1, none⟩ = some (.int .i64 ep) := (kr.alloc _).cell 1
      have HL2 := hid hl2
      clear hl2 hm hos
      go_wp2_with fail
      go_roundg (n - (j + 1))
      case measure => omega
      case rel => exact ⟨j + 1, by omega, rfl, by go_num, HL2⟩
    · obtain rfl : j = n := by omega
      have g5 : wr.frozen? ⟨w.heap.size, 5, none⟩ = false := kr.frozen 5
      have g6 : wr.frozen? ⟨w.heap.size, 6, none⟩ = false := kr.frozen 6
      have g7 : wr.frozen? ⟨w.heap.size, 7, none⟩ = false := kr.frozen 7
      have fin : Blk (((wr.setCell ⟨w.heap.size, 5, none⟩ (.int .i64 0)).setCell ⟨w.heap.size, 6, none⟩ (.int .i64 0)).setCell ⟨w.heap.size, 7, none⟩ nils) w.heap.size 147 (msgc k ep 0 0 nils 0 0 nils) := ((kr.set_ 5 (.int .i64 0)).set_ 6 (.int .i64 0)).set_ 7 nils
      have finl : Lat w (((wr.setCell ⟨w.heap.size, 5, none⟩ (.int .i64 0)).setCell ⟨w.heap.size, 6, none⟩ (.int .i64 0)).setCell ⟨w.heap.size, 7, none⟩ nils) := Lat.setc (Nat.le_refl _) (Lat.setc (Nat.le_refl _) (Lat.setc (Nat.le_refl _) (HL1.out.trans hl.out) _) _) _
      obtain ⟨q0, q1, q2, q3, q4, q5, q6, q7⟩ := mcells fin
      have FINL := hid finl
      clear fin finl kr
      go_wp2_with (go_at_call 202; (with_reducible refine (lbare202 k ep _).mono ?_); rintro e' w2 ⟨rfl, hb2⟩)
      go_ret
      exact ⟨rfl, (FINL.out.below hb2).b⟩
end Go.Proofs.YtbpnbcjgkbpmgaaGreat
namespace Go.Proofs.YtbpnbcjgkbpmgaaGreat
open Go.RowKit Go.Lg Ds St
set_option linter.unusedVariables false
set_option linter.unusedSimpArgs false
inductive Mok (w : World) (B : Nat) : Array Value → Prop
  | hello (ep ro en : Int) (A : Option Addr) (n c : Nat) (l : List (Int × Int)) (hss : SS w B A n l) (hok : Sl.ok l en) (r1 : 1 ≤ ro) (r2 : ro ≤ 3) (hlast : 0 < n → Sl.E l (n - 1) ≤ ep) (hn : n ≤ 100000) (e1 : 1 ≤ ep) (e2 : ep ≤ 1048576) : Mok w B (msgc 1 ep ro en (.slice A n c) 0 0 nils)
  | ship (ep fr pv : Int) (A : Option Addr) (n c : Nat) (ms : List Cm) (hcs : CS w B A n ms) (f1 : 1 ≤ fr) (f2 : fr ≤ 1048576) (p1 : 0 ≤ pv) (p2 : pv ≤ ep) (hpf : pv = 0 ↔ fr = 1) (hn : n ≤ 4) (hfo : fol pv (fr - 1) 0 ms = (0, 0)) (hall : ∀ m ∈ ms, m.ep ≤ ep) (e1 : 1 ≤ ep) (e2 : ep ≤ 1048576) : Mok w B (msgc 2 ep 0 0 nils fr pv (.slice A n c))
  | ack (ep en : Int) (h1 : 0 ≤ en) (h2 : en ≤ 1048576) (e1 : 1 ≤ ep) (e2 : ep ≤ 1048576) : Mok w B (msgc 3 ep 0 en nils 0 0 nils)
theorem Mok.keep {w w' : World} {B : Nat} {a : Array Value} (h : Mok w B a) (hb : Below B w w') : Mok w' B a := by
  cases h with
  | hello ep ro en A n c l hss hok r1 r2 hlast hn e1 e2 => exact .hello ep ro en A n c l (hss.keep hb) hok r1 r2 hlast hn e1 e2
  | ship ep fr pv A n c ms hcs f1 f2 p1 p2 hpf hn hfo hall e1 e2 => exact .ship ep fr pv A n c ms (hcs.keep hb) f1 f2 p1 p2 hpf hn hfo hall e1 e2
  | ack ep en h1 h2 e1 e2 => exact .ack ep en h1 h2 e1 e2
theorem Mok.more {w : World} {B B' : Nat} {a : Array Value} (h : Mok w B a) (hb : B ≤ B') : Mok w B' a := by
  cases h with
  | hello ep ro en A n c l hss hok r1 r2 hlast hn e1 e2 => exact .hello ep ro en A n c l (hss.more hb) hok r1 r2 hlast hn e1 e2
  | ship ep fr pv A n c ms hcs f1 f2 p1 p2 hpf hn hfo hall e1 e2 => exact .ship ep fr pv A n c ms (hcs.more hb) f1 f2 p1 p2 hpf hn hfo hall e1 e2
  | ack ep en h1 h2 e1 e2 => exact .ack ep en h1 h2 e1 e2
set_option maxHeartbeats 2000000 in
set_option maxRecDepth 100000 in
theorem lcheck121 {w : World} {a : Array Value} (h : Mok w w.heap.size a) : Calls Tryz.prog 121 #[.agg a] w fun e w' => e = .returned (.int .i64 0) ∧ Below w.heap.size w w' := by
  cases h with
  | hello ep ro en A n c l hss hok r1 r2 hlast hn e1 e2 =>
    have lW : Lat w (w.alloc (.cells (msgc 1 ep ro en (.slice A n c) 0 0 nils) 147)) := (Lat.refl w).alloc _
    have hh := lhello163 (w := w.alloc (.cells (msgc 1 ep ro en (.slice A n c) 0 0 nils) 147)) 1 ep ro en (c := c) ((hss.keep lW.b).more lW.size) hok r1 r2 hlast hn
    have HL := hid lW
    clear hss lW hok hlast
    go_enter Tryz.func121, Tryz.ntmps121
    go_wp2_with (first | (go_at_call 162; (with_reducible refine (lwithin162 ep 1 1048576 e1 e2 _).mono ?_); rintro e' w1 ⟨rfl, rfl⟩) | (go_at_call 163; (with_reducible refine hh.mono ?_); rintro e' w2 ⟨rfl, hb2⟩))
    go_ret
    exact ⟨rfl, (HL.out.below hb2).b⟩
  | ship ep fr pv A n c ms hcs f1 f2 p1 p2 hpf hn hfo hall e1 e2 =>
    have lW : Lat w (w.alloc (.cells (msgc 2 ep 0 0 nils fr pv (.slice A n c)) 147)) := (Lat.refl w).alloc _
    have hh := lship164 (w := w.alloc (.cells (msgc 2 ep 0 0 nils fr pv (.slice A n c)) 147)) 2 ep fr pv (c := c) ((hcs.keep lW.b).more lW.size) f1 f2 p1 p2 hpf hn hfo hall
    have HL := hid lW
    clear hcs lW hfo hall hpf
    go_enter Tryz.func121, Tryz.ntmps121
    go_wp2_with (first | (go_at_call 162; (with_reducible refine (lwithin162 ep 1 1048576 e1 e2 _).mono ?_); rintro e' w1 ⟨rfl, rfl⟩) | (go_at_call 164; (with_reducible refine hh.mono ?_); rintro e' w2 ⟨rfl, hb2⟩))
    go_ret
    exact ⟨rfl, (HL.out.below hb2).b⟩
  | ack ep en h1 h2 e1 e2 =>
    have lW : Lat w (w.alloc (.cells (msgc 3 ep 0 en nils 0 0 nils) 147)) := (Lat.refl w).alloc _
    have hh := lack165 (w := w.alloc (.cells (msgc 3 ep 0 en nils 0 0 nils) 147)) 3 ep en h1 h2
    have HL := hid lW
    clear lW
    go_enter Tryz.func121, Tryz.ntmps121
    go_wp2_with (first | (go_at_call 162; (with_reducible refine (lwithin162 ep 1 1048576 e1 e2 _).mono ?_); rintro e' w1 ⟨rfl, rfl⟩) | (go_at_call 165; (with_reducible refine hh.mono ?_); rintro e' w2 ⟨rfl, hb2⟩))
    go_ret
    exact ⟨rfl, (HL.out.below hb2).b⟩
end Go.Proofs.YtbpnbcjgkbpmgaaGreat
