/- A log of epochs that rise or stay. -/
import Derived.Test.YtmlfbjcgmbdafaaSu
import Derived.Test.YtmlfbjcgmbdafaaSl
namespace Go.Proofs.Ytmlfbjcgmbdafaa
open Go.RowKit Go.Lg
set_option linter.unusedVariables false
set_option linter.unusedSimpArgs false

theorem T37 : SlT Try.prog 37 40 3 40 := SlT.mk' (.agg #[.int .i64 0, .int .i64 0, .slice none 0 0]) Try.underlying37 (by kernel_rfl) rfl (by decide) (by decide)
def kop : Op3 := ⟨true, ByteArray.mk #[107], ByteArray.mk #[]⟩
theorem kop_ok : kop.ok := by decide
theorem bk_kop : bk [kop] = 0 := by decide
/-- A commit that puts a key. -/
def KC (B : Nat) (w : World) (m : Cm) : Prop := m.os = [kop] ∧ m.n = 1 ∧ w.ownsRow B 68 3 (.slice m.A 1 m.c) 1 (opc [kop])
theorem KC.later {B : Nat} {w w' : World} {m : Cm} (h : KC B w m) (hb : Below w.heap.size w w') : KC B w' m := ⟨h.1, h.2.1, owned_later h.2.2 hb⟩
theorem KC.os {B : Nat} {w : World} {m : Cm} (h : KC B w m) : OS w w.heap.size m.A m.n m.os ∧ m.n ≤ 9223372036854775807 := by
  obtain ⟨h1, h2, h3⟩ := h
  rw [h1, h2]
  exact ⟨⟨Rd.of_own h3, rfl⟩, by decide⟩
def pairOf (m : Cm) : Int × Int := (m.ep, m.num)
/-- Epochs and numbers of such a log. -/
def pr (e0 n0 : Int) (bs : List Bool) (j : Nat) : List (Int × Int) := (List.range j).map fun i => (e0 + 2 * ((bs.take (i + 1)).count true : Nat), n0 + (i : Nat))
theorem pr_succ (e0 n0 : Int) (bs : List Bool) (j : Nat) : pr e0 n0 bs (j + 1) = pr e0 n0 bs j ++ [(e0 + 2 * ((bs.take (j + 1)).count true : Nat), n0 + (j : Nat))] := by simp [pr, List.range_succ]
def bls (bs : List Bool) : List Value := bs.map Value.bool
theorem cmc_snoc (cs : List Cm) (m : Cm) : cmc (cs ++ [m]) = cmc cs ++ (#[.int .i64 m.ep, .int .i64 m.num, .slice m.A m.n m.c] : Array Value).toList := by simp [cmc]
/-- Commits in memory of the call's own. -/
def Logs (ps : List (Int × Int)) (w : World) (e : Ending) (w' : World) : Prop :=
  ∃ v cs, e = .returned v ∧ cs.map pairOf = ps ∧ w'.ownsRow w.heap.size 40 3 v cs.length (cmc cs) ∧ (∀ m ∈ cs, KC w.heap.size w' m) ∧ Below w.heap.size w w'
theorem logs_eq {ps : List (Int × Int)} {cs : List Cm} {n : Nat} {v : Value} {w w' : World} (h1 : cs.map pairOf = ps) (hn : n = cs.length) (ho : w'.ownsRow w.heap.size 40 3 v n (cmc cs)) (hk : ∀ m ∈ cs, KC w.heap.size w' m) (hb : Below w.heap.size w w') : Logs ps w (.returned v) w' := by
  subst hn
  exact ⟨v, cs, rfl, h1, ho, hk, hb⟩

set_option maxHeartbeats 1000000 in
set_option maxRecDepth 100000 in
theorem copy46_nil (w : World) : Calls Try.prog 46 #[.slice none 0 0] w (Logs [] w) := by
  go_enter Try.func46, Try.ntmps46
  go_wp2_with fail
  go_loopg [3, 4] 0 (fun k v i wr => v = .slice none 0 0 ∧ i = .int .i64 0 ∧ wr = w)
  case atStart => exact ⟨rfl, rfl, rfl⟩
  case round =>
    obtain ⟨rfl, rfl, hw⟩ := hrel
    subst hw
    go_wp2_with fail
    go_ret
    exact logs_eq (cs := []) rfl rfl (World.ownsRow_nil _ _ _ _) (fun m hm => by cases hm) (Below.refl _ _)

abbrev opsO : Obj := .cells #[.bool true, .string ⟨#[107]⟩, .string ⟨#[]⟩] 68
theorem log_step {w wr w3 : World} {B k : Nat} {v : Value} {cs : List Cm} {x num : Int} (ho : wr.ownsRow B 40 3 v k (cmc cs)) (hk : ∀ m ∈ cs, KC B wr m) (hb : Below B w wr) (hB : B ≤ wr.heap.size) (hg : (wr.alloc opsO).grownBy w3 v.ownBlock) :
    (∀ m ∈ cs ++ [⟨x, num, some ⟨wr.heap.size, 0, none⟩, 1, 1, [kop]⟩], KC B w3 m) ∧ Below B w w3 := by
  have ho1 := ho.alloc opsO
  refine ⟨?_, below_append (hb.alloc hB opsO) ho1 hg (by simp; omega)⟩
  have far : ∀ (A : Option Addr) (c : Nat), (wr.alloc opsO).ownsRow B 68 3 (.slice A 1 c) 1 (opc [kop]) → w3.ownsRow B 68 3 (.slice A 1 c) 1 (opc [kop]) := fun A c h =>
    owned_gb h hg fun g hg1 he => ne_by_type h ho1 (by decide) g hg1 he.symm
  intro m hm
  rw [List.mem_append, List.mem_singleton] at hm
  rcases hm with hm | rfl
  · obtain ⟨h1, h2, h3⟩ := hk m hm
    exact ⟨h1, h2, far _ _ (h3.alloc _)⟩
  · exact ⟨rfl, rfl, far _ _ (World.ownsRow_lit (base := B) wr #[.bool true, .string ⟨#[107]⟩, .string ⟨#[]⟩] 1 hB (by decide) rfl)⟩

set_option maxHeartbeats 4000000 in
set_option maxRecDepth 100000 in
theorem log30 (v0 : Value) (ps : List (Int × Int)) (e0 : Int) (A : Option Addr) (n c : Nat) (bs : List Bool) (w : World) (hcp : Calls Try.prog 46 #[v0] w (Logs ps w)) (h : Rd w w.heap.size 1 A n (bls bs)) (hn : n ≤ 1000) (hp : ps.length ≤ 1000) (he : 0 ≤ e0 ∧ e0 ≤ 1000000) :
    Calls Try.prog 30 #[v0, .int .i64 e0, .slice A n c] w (Logs (ps ++ pr e0 (ps.length + 1) bs n) w) := by
  have hl : bs.length = n := by have := h.1; simpa [bls] using this
  have HL := hid hl
  clear hl
  go_enter Try.func30, Try.ntmps30
  go_wp2_with (go_at_call 46; refine stop_ (fun Ps hPs => ?_))
  refine hPs ?_
  clear hPs Ps
  refine hcp.mono ?_
  clear hcp
  rintro e w1 ⟨v1, cs0, rfl, hps, ho, hk, hb⟩
  have hcl : cs0.length = ps.length := by rw [← hps]; simp
  have HPS := hid hps
  have HK := hid hk
  have hsz := hb.size
  clear hps hk
  go_wp2_with fail
  go_loopg [1, 7, 8] n (fun k ep v i wr => ∃ (j : Nat) (x : Int) (cs : List Cm) (vv : Value), v = vv ∧ j ≤ n ∧ k = n - j ∧ i = .int .i64 j ∧ ep = .int .i64 x ∧ Hid (x = e0 + 2 * ((bs.take j).count true : Nat)) ∧ Hid (cs.map pairOf = ps ++ pr e0 (ps.length + 1) bs j) ∧ wr.ownsRow w.heap.size 40 3 vv (ps.length + j) (cmc cs) ∧ Hid (∀ m ∈ cs, KC w.heap.size wr m) ∧ Below w.heap.size w wr)
  case atStart => exact ⟨0, e0, cs0, _, rfl, by omega, rfl, rfl, rfl, hid (by simp), hid (by rw [HPS.out]; simp [pr]), by rw [← hcl]; exact ho, HK, hb⟩
  case round =>
    clear ho hb HK hsz
    obtain ⟨j, x, cs, vv, rfl, hj, rfl, rfl, rfl, hx, hcs, ho, hk, hb⟩ := hrel
    have hsz := hb.size
    obtain ⟨Av, cv, rfl, gv1, gv2⟩ := owned_slice ho
    have hcsl : cs.length = ps.length + j := by
      have := congrArg List.length hcs.out
      simpa [pr] using this
    by_cases hlt : j < n
    · have hr := h.below hb
      obtain ⟨b, off, u, rfl, hbB, hu, c0⟩ := hr.at_ (k := j) hlt
      simp only [bls, List.getElem?_map, Option.map_eq_some_iff] at hu
      obtain ⟨t, ht, rfl⟩ := hu
      have hji : (j : Int) < (n : Int) := by omega
      have hcnt : ((bs.take j).count true) ≤ 1000 := by
        have := List.count_le_length (a := true) (l := bs.take j)
        rw [List.length_take] at this
        omega
      have hx9 : 0 ≤ x ∧ x ≤ 1002000 := by have := hx.out; omega
      have hstep : (bs.take (j + 1)).count true = (bs.take j).count true + (if t = true then 1 else 0) := by
        rw [take_succ_get? ht, List.count_append]
        cases t <;> simp
      have HST := hid hstep
      have HO := hid ho
      have HB := hid hb
      have hlp : ((ps.length + j : Nat) : Int) = (ps.length : Int) + (j : Int) := by omega
      clear ht hr hstep ho hb
      cases t
      · have HX : Hid (x = e0 + 2 * ((bs.take (j + 1)).count true : Nat)) := by
          have h1 := hx.out
          have h2 := HST.out
          rw [if_neg (by decide)] at h2
          show x = _
          rw [h2]
          omega
        have hwx : wrap64 (x + 2) = x + 2 := by simp only [wrap64]; omega
        go_wp2_with (at_builtin; refine stop_ (fun Ps hPs => ?_))
        refine hPs ?_
        clear hPs Ps
        refine wpList_app1 (w := wr.alloc opsO) T37 (.tmp 23) (.tmp 31) rfl rfl (HO.out.alloc _) rfl rfl (by rw [World.size_alloc]; rfl) (by simp [Value.oneCell']) (by omega) (by simp; omega) fun v' w3 ho3 hg hat => ?_
        obtain ⟨hk3, hb3⟩ := log_step (x := x) (num := (ps.length : Int) + (j : Int) + 1) HO.out hk.out HB.out hsz hg
        have HO3 := hid ho3
        have HK3 := hid hk3
        have HB3 := hid hb3
        clear ho3 hk3 hb3 hg hat
        go_wp2_with fail
        go_roundg (n - (j + 1))
        case measure => omega
        case rel =>
          refine ⟨j + 1, x, _, v', rfl, by omega, rfl, by go_num, by go_num, HX, hid ?_, ?_, HK3, HB3.out⟩
          · rw [List.map_append, hcs.out, pr_succ, ← HX.out, List.append_assoc]
            simp only [List.map_cons, List.map_nil, pairOf]
            congr 4
            omega
          · rw [cmc_snoc]
            exact HO3.out
      · have HX : Hid (x + 2 = e0 + 2 * ((bs.take (j + 1)).count true : Nat)) := by
          have h1 := hx.out
          have h2 := HST.out
          rw [if_pos rfl] at h2
          show x + 2 = _
          rw [h2]
          omega
        have hwx : wrap64 (x + 2) = x + 2 := by simp only [wrap64]; omega
        go_wp2_with (at_builtin; refine stop_ (fun Ps hPs => ?_))
        refine hPs ?_
        clear hPs Ps
        refine wpList_app1 (w := wr.alloc opsO) T37 (.tmp 23) (.tmp 31) rfl rfl (HO.out.alloc _) rfl rfl (by rw [World.size_alloc]; rfl) (by simp [Value.oneCell']) (by omega) (by simp; omega) fun v' w3 ho3 hg hat => ?_
        obtain ⟨hk3, hb3⟩ := log_step (x := x + 2) (num := (ps.length : Int) + (j : Int) + 1) HO.out hk.out HB.out hsz hg
        have HO3 := hid ho3
        have HK3 := hid hk3
        have HB3 := hid hb3
        clear ho3 hk3 hb3 hg hat
        go_wp2_with fail
        go_roundg (n - (j + 1))
        case measure => omega
        case rel =>
          refine ⟨j + 1, x + 2, _, v', rfl, by omega, rfl, by go_num, by go_num, HX, hid ?_, ?_, HK3, HB3.out⟩
          · rw [List.map_append, hcs.out, pr_succ, ← HX.out, List.append_assoc]
            simp only [List.map_cons, List.map_nil, pairOf]
            congr 4
            omega
          · rw [cmc_snoc]
            exact HO3.out
    · obtain rfl : j = n := by omega
      have HO := hid ho
      have HK := hid hk.out
      clear ho
      go_wp2_with fail
      go_ret
      exact logs_eq hcs.out hcsl.symm HO.out HK.out hb
end Go.Proofs.Ytmlfbjcgmbdafaa
