/- Roles follow one another only in the ways that the document allows: the walk. -/
import Derived.Test.YtagehcnbllkipaaWy
import Derived.Test.YtagehcnbllkipaaLv
namespace Go.Proofs.Ytagehcnbllkipaa
open Go.RowKit Go.Lg
set_option linter.unusedVariables false
set_option linter.unusedSimpArgs false

/-- The slice reads as these steps. -/
def St (w : World) (B : Nat) (A : Option Addr) (n : Nat) (l : List (Int × Int × Int)) : Prop :=
  l.length = n ∧ (∀ s ∈ l, (-9223372036854775808 ≤ s.1 ∧ s.1 ≤ 9223372036854775807)) ∧ (0 < n → ∃ b off, A = some ⟨b, off, none⟩ ∧ b < B ∧ ∀ (j : Nat) s, l[j]? = some s →
    w.cell? ⟨b, off + j * 3, none⟩ = some (.int .i64 s.1) ∧ w.cell? ⟨b, off + j * 3 + 1, none⟩ = some (.int .i64 s.2.1) ∧ w.cell? ⟨b, off + j * 3 + 2, none⟩ = some (.int .i64 s.2.2))
theorem St.below {w w' : World} {B n : Nat} {A : Option Addr} {l : List (Int × Int × Int)} (h : St w B A n l) (hb : Below B w w') : St w' B A n l :=
  ⟨h.1, h.2.1, fun hn => by
    obtain ⟨b, off, e, hlt, hc⟩ := h.2.2 hn
    refine ⟨b, off, e, hlt, fun j s hj => ?_⟩
    obtain ⟨h1, h2, h3⟩ := hc j s hj
    exact ⟨(hb.cell (p := ⟨b, _, none⟩) hlt).trans h1, (hb.cell (p := ⟨b, _, none⟩) hlt).trans h2, (hb.cell (p := ⟨b, _, none⟩) hlt).trans h3⟩⟩

theorem later_cells {v : World} {g b o0 o1 o2 : Nat} {a1 a2 a3 a4 a5 a6 : Int} {x0 x1 x2 : Value} (h : Blk v g 25 #[.int .i64 a1, .int .u8 a2, .int .i64 a3, .int .u8 a4, .int .i64 a5, .int .i64 a6]) (hb : b < v.heap.size)
    (t0 : v.cell? ⟨b, o0, none⟩ = some x0) (t1 : v.cell? ⟨b, o1, none⟩ = some x1) (t2 : v.cell? ⟨b, o2, none⟩ = some x2) :
    (∀ o, (v.alloc o).cell? ⟨g, 0, none⟩ = some (.int .i64 a1)) ∧ (∀ o, (v.alloc o).cell? ⟨g, 1, none⟩ = some (.int .u8 a2)) ∧ (∀ o, (v.alloc o).cell? ⟨g, 2, none⟩ = some (.int .i64 a3)) ∧ (∀ o, (v.alloc o).cell? ⟨g, 3, none⟩ = some (.int .u8 a4)) ∧
    (∀ o, (v.alloc o).cell? ⟨g, 4, none⟩ = some (.int .i64 a5)) ∧ (∀ o, (v.alloc o).cell? ⟨g, 5, none⟩ = some (.int .i64 a6)) ∧ (∀ o, (v.alloc o).cell? ⟨b, o0, none⟩ = some x0) ∧ (∀ o, (v.alloc o).cell? ⟨b, o1, none⟩ = some x1) ∧ (∀ o, (v.alloc o).cell? ⟨b, o2, none⟩ = some x2) :=
  ⟨fun o => (h.alloc o).cell 0, fun o => (h.alloc o).cell 1, fun o => (h.alloc o).cell 2, fun o => (h.alloc o).cell 3, fun o => (h.alloc o).cell 4, fun o => (h.alloc o).cell 5,
    fun o => (World.cell?_alloc_lt v o _ hb).trans t0, fun o => (World.cell?_alloc_lt v o _ hb).trans t1, fun o => (World.cell?_alloc_lt v o _ hb).trans t2⟩

theorem far6 {v : World} {p : Addr} {u : Value} {g : Nat} (h : v.cell? p = some u) (hg : p.block ≠ g) (y0 y1 y2 y3 y4 y5 : Value) :
    ((((((v.setCell ⟨g, 0, none⟩ y0).setCell ⟨g, 1, none⟩ y1).setCell ⟨g, 2, none⟩ y2).setCell ⟨g, 3, none⟩ y3).setCell ⟨g, 4, none⟩ y4).setCell ⟨g, 5, none⟩ y5).cell? p = some u := by
  have hne : ∀ i, (⟨g, i, none⟩ : Addr) ≠ p := fun i e => hg (by rw [← e])
  rw [World.cell?_setCell_other _ _ _ _ (hne 5), World.cell?_setCell_other _ _ _ _ (hne 4), World.cell?_setCell_other _ _ _ _ (hne 3), World.cell?_setCell_other _ _ _ _ (hne 2), World.cell?_setCell_other _ _ _ _ (hne 1), World.cell?_setCell_other _ _ _ _ (hne 0)]
  exact h
theorem below_drew_alloc {v v1 : World} {o : Obj} (hq : Below ((v.alloc o).drew).heap.size (v.alloc o).drew v1) : Below v.heap.size v v1 :=
  bl_trans ((Below.refl v.heap.size v).alloc (Nat.le_refl _) o) (below_src hq) (by simp)
theorem blk_drew_alloc {v v1 : World} {cs : Array Value} (hq : Below ((v.alloc (.cells cs 25)).drew).heap.size (v.alloc (.cells cs 25)).drew v1) : Blk v1 v.heap.size 25 cs :=
  (Blk.new v 25 cs).below (below_src hq) (by simp)
theorem later_drew {v : World} {g b o0 o1 o2 : Nat} {a1 a2 a3 a4 a5 a6 : Int} {x0 x1 x2 : Value} (h : Blk v g 25 #[.int .i64 a1, .int .u8 a2, .int .i64 a3, .int .u8 a4, .int .i64 a5, .int .i64 a6]) (hb : b < v.heap.size)
    (t0 : v.cell? ⟨b, o0, none⟩ = some x0) (t1 : v.cell? ⟨b, o1, none⟩ = some x1) (t2 : v.cell? ⟨b, o2, none⟩ = some x2) :
    (∀ o, ((v.alloc o).drew).cell? ⟨g, 0, none⟩ = some (.int .i64 a1)) ∧ (∀ o, ((v.alloc o).drew).cell? ⟨g, 1, none⟩ = some (.int .u8 a2)) ∧ (∀ o, ((v.alloc o).drew).cell? ⟨g, 2, none⟩ = some (.int .i64 a3)) ∧ (∀ o, ((v.alloc o).drew).cell? ⟨g, 3, none⟩ = some (.int .u8 a4)) ∧ (∀ o, ((v.alloc o).drew).cell? ⟨g, 4, none⟩ = some (.int .i64 a5)) ∧ (∀ o, ((v.alloc o).drew).cell? ⟨g, 5, none⟩ = some (.int .i64 a6)) ∧ (∀ o, ((v.alloc o).drew).cell? ⟨b, o0, none⟩ = some x0) ∧ (∀ o, ((v.alloc o).drew).cell? ⟨b, o1, none⟩ = some x1) ∧ (∀ o, ((v.alloc o).drew).cell? ⟨b, o2, none⟩ = some x2) :=
  later_cells h hb t0 t1 t2
theorem now_drew {v : World} {g b o0 o1 o2 : Nat} {a1 a2 a3 a4 a5 a6 : Int} {x0 x1 x2 : Value} (h : Blk v g 25 #[.int .i64 a1, .int .u8 a2, .int .i64 a3, .int .u8 a4, .int .i64 a5, .int .i64 a6])
    (t0 : v.cell? ⟨b, o0, none⟩ = some x0) (t1 : v.cell? ⟨b, o1, none⟩ = some x1) (t2 : v.cell? ⟨b, o2, none⟩ = some x2) :
    v.drew.cell? ⟨g, 0, none⟩ = some (.int .i64 a1) ∧ v.drew.cell? ⟨g, 1, none⟩ = some (.int .u8 a2) ∧ v.drew.cell? ⟨g, 2, none⟩ = some (.int .i64 a3) ∧ v.drew.cell? ⟨g, 3, none⟩ = some (.int .u8 a4) ∧ v.drew.cell? ⟨g, 4, none⟩ = some (.int .i64 a5) ∧ v.drew.cell? ⟨g, 5, none⟩ = some (.int .i64 a6) ∧ v.drew.cell? ⟨b, o0, none⟩ = some x0 ∧ v.drew.cell? ⟨b, o1, none⟩ = some x1 ∧ v.drew.cell? ⟨b, o2, none⟩ = some x2 :=
  ⟨h.cell 0, h.cell 1, h.cell 2, h.cell 3, h.cell 4, h.cell 5, t0, t1, t2⟩

set_option maxHeartbeats 8000000 in
set_option maxRecDepth 100000 in
theorem ways5 (nd : Int) (A : Option Addr) (n c : Nat) (l : List (Int × Int × Int)) (w : World) (hnd : -9223372036854775808 ≤ nd ∧ nd ≤ 9223372036854775807) (hst : St w w.heap.size A n l) (hnn : n ≤ 9223372036854775807) :
    Calls Try.prog 5 #[.int .i64 nd, .slice A n c] w (Yes w) := by
  have hl := lives14
  have h17 := pick17 nd 2 (by decide) (by decide) hnd
  obtain ⟨r, hr⟩ : ∃ r, pick nd 2 = r := ⟨_, rfl⟩
  rw [hr] at h17
  have hr2 : 0 ≤ r ∧ r < 2 := by
    have ha := Int.tmod_lt_of_pos nd (show (0 : Int) < 2 by decide)
    have hb := Int.tmod_lt_of_pos (-nd) (show (0 : Int) < 2 by decide)
    rw [Int.neg_tmod] at hb
    rw [← hr]
    unfold pick
    split <;> omega
  clear hr
  have h19 := first19 r (by omega)
  by_cases h200 : n ≤ 200
  case neg =>
    have hgt : (200 : Int) < n := by omega
    go_enter Try.func5, Try.ntmps5
    go_wp2_with (go_at_call 14; refine (hl _).mono ?_; clear hl; rintro e w1 ⟨rfl, hb⟩)
    go_ret
    exact ⟨rfl, hb⟩
  have hle : (n : Int) ≤ 200 := by omega
  have HST := hid hst
  clear hst
  go_enter Try.func5, Try.ntmps5
  go_wp2_with (first | (go_at_call 14; refine (hl _).mono ?_; clear hl; rintro e w1 ⟨rfl, hb⟩) | (go_at_call 17; refine (h17 _).mono ?_; clear h17; rintro e w1 ⟨rfl, _, _, rfl⟩) | (go_at_call 19; refine (h19 _).mono ?_; clear h19; rintro e w2 ⟨rfl, hb2⟩))
  have hb0 := (bl_trans hb hb2 hb.size).alloc (bl_trans hb hb2 hb.size).size (.cells #[.int .i64 1, .int .u8 (1 + r), .int .i64 0, .int .u8 0, .int .i64 0, .int .i64 0] 25)
  have kp0 := Blk.new w2 25 #[.int .i64 1, .int .u8 (1 + r), .int .i64 0, .int .u8 0, .int .i64 0, .int .i64 0]
  have hok0 : Ok ⟨1, 1 + r, 0, 0, 0, 0⟩ := ok_of (by omega)
  have le5 := (bl_trans hb hb2 hb.size).size
  clear hb hb2 h200
  generalize hb5 : w2.heap.size = b5 at *
  clear hb5
  generalize hW : World.alloc w2 _ = w3 at *
  clear hW
  have HOK := hid hok0
  have HKP := hid kp0
  have HB := hid hb0
  clear hok0 kp0 hb0
  go_loopg [7] n (fun k i wr => ∃ (j : Nat) (p : Pg), j ≤ n ∧ k = n - j ∧ i = .int .i64 j ∧ Ok p ∧ Blk wr b5 25 p.cs ∧ Below w.heap.size w wr)
  case atStart => exact ⟨0, _, by omega, rfl, rfl, HOK.out, HKP.out, HB.out⟩
  case round =>
    obtain ⟨j, ⟨p1, p2, p3, p4, p5, p6⟩, hj, rfl, rfl, hok, kp, hb⟩ := hrel
    clear HOK HKP HB
    by_cases hlt : j < n
    · have hst := HST.out.below hb
      obtain ⟨hl1, hl2, hl3⟩ := hst
      obtain ⟨b, off, rfl, hbl, hc⟩ := hl3 (by omega)
      obtain ⟨s, hs⟩ : ∃ s, l[j]? = some s := ⟨_, List.getElem?_eq_getElem (by omega)⟩
      have hks := hl2 s (List.mem_of_getElem? hs)
      obtain ⟨kd, sn, sm⟩ := s
      obtain ⟨t0, t1, t2⟩ := hc j _ hs
      simp only at t0 t1 t2 hks
      have hnx := next20 ⟨p1, p2, p3, p4, p5, p6⟩ kd sn sm hks
      have hpk : 0 ≤ pick kd 7 ∧ pick kd 7 < 7 := by
        have ha := Int.tmod_lt_of_pos kd (show (0 : Int) < 7 by decide)
        have hb := Int.tmod_lt_of_pos (-kd) (show (0 : Int) < 7 by decide)
        rw [Int.neg_tmod] at hb
        unfold pick
        split <;> omega
      obtain ⟨q, hq⟩ : ∃ q, nextp ⟨p1, p2, p3, p4, p5, p6⟩ (pick kd 7) sn sm = q := ⟨_, rfl⟩
      rw [hq] at hnx
      obtain ⟨⟨q1, q2, q3, q4, q5, q6⟩, e⟩ := q
      have hji : (j : Int) < (n : Int) := by omega
      have HS := hid hs
      have HLT := hid hlt
      have HST2 := hid hl1
      have HOK := hid hok
      have HB := hid hb
      have HKP := hid kp
      have hbs := hb.size
      have HQ := hid hq
      clear hl1 hl2 hl3 hc hs hlt hok hb hq
      obtain ⟨⟨pc0, pc1, pc2, pc3, pc4, pc5⟩, pf0, pf1, pf2, pf3, pf4, pf5⟩ := page_cells kp
      have hbv : b < wr.heap.size := Nat.lt_of_lt_of_le hbl hbs
      go_wp2_with fail
      have n58 : b5 ≠ wr.heap.size := Nat.ne_of_lt kp.lt
      have nb8 : b ≠ wr.heap.size := Nat.ne_of_lt hbv
      have ka := later_cells kp hbv t0 t1 t2
      have kw := later_drew kp hbv t0 t1 t2
      have kv := now_drew kp t0 t1 t2
      go_region_held3 (fun w' => (w'.cell? ⟨b5, 0, none⟩ = some (Value.int .i64 p1) ∧ w'.cell? ⟨b5, 1, none⟩ = some (Value.int .u8 p2) ∧ w'.cell? ⟨b5, 2, none⟩ = some (Value.int .i64 p3) ∧ w'.cell? ⟨b5, 3, none⟩ = some (Value.int .u8 p4) ∧ w'.cell? ⟨b5, 4, none⟩ = some (Value.int .i64 p5) ∧ w'.cell? ⟨b5, 5, none⟩ = some (Value.int .i64 p6)) ∧ (w'.cell? ⟨b, off + j * 3, none⟩ = some (.int .i64 kd) ∧ w'.cell? ⟨b, off + j * 3 + 1, none⟩ = some (.int .i64 sn) ∧ w'.cell? ⟨b, off + j * 3 + 2, none⟩ = some (.int .i64 sm))) ((refine ⟨⟨?_, ?_, ?_, ?_, ?_, ?_⟩, ?_, ?_, ?_⟩; (first | (with_reducible exact pc0) | (with_reducible exact kv.1) | (with_reducible exact ka.1 _) | (with_reducible exact kw.1 _) | (with_reducible exact far6 pc0 n58 (.int .i64 q1) (.int .u8 q2) (.int .i64 q3) (.int .u8 q4) (.int .i64 q5) (.int .i64 q6)) | exact pc0); (first | (with_reducible exact pc1) | (with_reducible exact kv.2.1) | (with_reducible exact ka.2.1 _) | (with_reducible exact kw.2.1 _) | (with_reducible exact far6 pc1 n58 (.int .i64 q1) (.int .u8 q2) (.int .i64 q3) (.int .u8 q4) (.int .i64 q5) (.int .i64 q6)) | exact pc1); (first | (with_reducible exact pc2) | (with_reducible exact kv.2.2.1) | (with_reducible exact ka.2.2.1 _) | (with_reducible exact kw.2.2.1 _) | (with_reducible exact far6 pc2 n58 (.int .i64 q1) (.int .u8 q2) (.int .i64 q3) (.int .u8 q4) (.int .i64 q5) (.int .i64 q6)) | exact pc2); (first | (with_reducible exact pc3) | (with_reducible exact kv.2.2.2.1) | (with_reducible exact ka.2.2.2.1 _) | (with_reducible exact kw.2.2.2.1 _) | (with_reducible exact far6 pc3 n58 (.int .i64 q1) (.int .u8 q2) (.int .i64 q3) (.int .u8 q4) (.int .i64 q5) (.int .i64 q6)) | exact pc3); (first | (with_reducible exact pc4) | (with_reducible exact kv.2.2.2.2.1) | (with_reducible exact ka.2.2.2.2.1 _) | (with_reducible exact kw.2.2.2.2.1 _) | (with_reducible exact far6 pc4 n58 (.int .i64 q1) (.int .u8 q2) (.int .i64 q3) (.int .u8 q4) (.int .i64 q5) (.int .i64 q6)) | exact pc4); (first | (with_reducible exact pc5) | (with_reducible exact kv.2.2.2.2.2.1) | (with_reducible exact ka.2.2.2.2.2.1 _) | (with_reducible exact kw.2.2.2.2.2.1 _) | (with_reducible exact far6 pc5 n58 (.int .i64 q1) (.int .u8 q2) (.int .i64 q3) (.int .u8 q4) (.int .i64 q5) (.int .i64 q6)) | exact pc5); (first | (with_reducible exact t0) | (with_reducible exact kv.2.2.2.2.2.2.1) | (with_reducible exact ka.2.2.2.2.2.2.1 _) | (with_reducible exact kw.2.2.2.2.2.2.1 _) | (with_reducible exact far6 t0 nb8 (.int .i64 q1) (.int .u8 q2) (.int .i64 q3) (.int .u8 q4) (.int .i64 q5) (.int .i64 q6)) | exact t0); (first | (with_reducible exact t1) | (with_reducible exact kv.2.2.2.2.2.2.2.1) | (with_reducible exact ka.2.2.2.2.2.2.2.1 _) | (with_reducible exact kw.2.2.2.2.2.2.2.1 _) | (with_reducible exact far6 t1 nb8 (.int .i64 q1) (.int .u8 q2) (.int .i64 q3) (.int .u8 q4) (.int .i64 q5) (.int .i64 q6)) | exact t1); (first | (with_reducible exact t2) | (with_reducible exact kv.2.2.2.2.2.2.2.2) | (with_reducible exact ka.2.2.2.2.2.2.2.2 _) | (with_reducible exact kw.2.2.2.2.2.2.2.2 _) | (with_reducible exact far6 t2 nb8 (.int .i64 q1) (.int .u8 q2) (.int .i64 q3) (.int .u8 q4) (.int .i64 q5) (.int .i64 q6)) | exact t2)))
        (first
          | (go_at_call 20; refine (hnx _).mono ?_; rintro e' v1 ⟨rfl, hq0⟩; with_reducible have hq1 := below_drew_alloc hq0; have kz := blk_drew_alloc hq0; obtain ⟨⟨zc0, zc1, zc2, zc3, zc4, zc5⟩, zf0, zf1, zf2, zf3, zf4, zf5⟩ := page_cells kz; have kp := HKP.out.later hq1; obtain ⟨⟨pc0, pc1, pc2, pc3, pc4, pc5⟩, pf0, pf1, pf2, pf3, pf4, pf5⟩ := page_cells kp; have t0 := (hq1.cell (p := ⟨b, off + j * 3, none⟩) hbv).trans t0; have t1 := (hq1.cell (p := ⟨b, off + j * 3 + 1, none⟩) hbv).trans t1; have t2 := (hq1.cell (p := ⟨b, off + j * 3 + 2, none⟩) hbv).trans t2; have hbv : b < v1.heap.size := Nat.lt_of_lt_of_le hbv hq1.size; have ka := later_cells kp hbv t0 t1 t2)
          | (go_at_call 20; refine (hnx _).mono ?_; rintro e' v1 ⟨rfl, hq0⟩; have hq1 := below_src hq0; have kp := HKP.out.later hq1; obtain ⟨⟨pc0, pc1, pc2, pc3, pc4, pc5⟩, pf0, pf1, pf2, pf3, pf4, pf5⟩ := page_cells kp; have t0 := (hq1.cell (p := ⟨b, off + j * 3, none⟩) hbv).trans t0; have t1 := (hq1.cell (p := ⟨b, off + j * 3 + 1, none⟩) hbv).trans t1; have t2 := (hq1.cell (p := ⟨b, off + j * 3 + 2, none⟩) hbv).trans t2; have hbv : b < v1.heap.size := Nat.lt_of_lt_of_le hbv hq1.size; have ka := later_cells kp hbv t0 t1 t2))
      · have kpW := kp.alloc (.cells #[.int .i64 q1, .int .u8 q2, .int .i64 q3, .int .u8 q4, .int .i64 q5, .int .i64 q6] 25)
        have kqW := Blk.new v1 25 #[.int .i64 q1, .int .u8 q2, .int .i64 q3, .int .u8 q4, .int .i64 q5, .int .i64 q6]
        have hb8 := (bl_trans HB.out hq1 HB.out.size).size
        have hbW := (bl_trans HB.out hq1 HB.out.size).alloc hb8 (.cells #[.int .i64 q1, .int .u8 q2, .int .i64 q3, .int .u8 q4, .int .i64 q5, .int .i64 q6] 25)
        have n5 : b5 ≠ v1.heap.size := Nat.ne_of_lt kp.lt
        clear hq0
        clear pc0 pc1 pc2 pc3 pc4 pc5 t0 t1 t2 ka kw kv hq1 kp
        obtain ⟨W, hW⟩ : ∃ W, W = v1.alloc (.cells #[.int .i64 q1, .int .u8 q2, .int .i64 q3, .int .u8 q4, .int .i64 q5, .int .i64 q6] 25) := ⟨_, rfl⟩
        rw [← hW] at kpW kqW hbW ⊢
        clear hW
        obtain ⟨⟨pc0, pc1, pc2, pc3, pc4, pc5⟩, pf0, pf1, pf2, pf3, pf4, pf5⟩ := page_cells kpW
        obtain ⟨⟨zc0, zc1, zc2, zc3, zc4, zc5⟩, zf0, zf1, zf2, zf3, zf4, zf5⟩ := page_cells kqW
        by_cases he : e = 0
        · subst he
          obtain ⟨_, hokq, hle', hway⟩ := step_fine hpk HQ.out
          simp only at hle'
          have h18 := check18_ok hokq
          have h21 := way21 HOK.out hway
          have HOKQ := hid hokq
          clear hokq hway
          go_wp2_with (first | (go_at_call 18; refine (h18 _).mono ?_; clear h18; rintro e' v2 ⟨rfl, hq2⟩; have kpW := kpW.later hq2; have kqW := kqW.later hq2; have hbW := bl_trans hbW hq2 hbW.size; clear hq2; obtain ⟨⟨pc0, pc1, pc2, pc3, pc4, pc5⟩, pf0, pf1, pf2, pf3, pf4, pf5⟩ := page_cells kpW; obtain ⟨⟨zc0, zc1, zc2, zc3, zc4, zc5⟩, zf0, zf1, zf2, zf3, zf4, zf5⟩ := page_cells kqW) | (go_at_call 21; refine (h21 _).mono ?_; clear h21; rintro e' v3 ⟨rfl, hq2⟩; have kpW := kpW.later hq2; have kqW := kqW.later hq2; have hbW := bl_trans hbW hq2 hbW.size; clear hq2; obtain ⟨⟨pc0, pc1, pc2, pc3, pc4, pc5⟩, pf0, pf1, pf2, pf3, pf4, pf5⟩ := page_cells kpW; obtain ⟨⟨zc0, zc1, zc2, zc3, zc4, zc5⟩, zf0, zf1, zf2, zf3, zf4, zf5⟩ := page_cells kqW))
          go_roundg (n - (j + 1))
          case measure => have := HLT.out; omega
          case rel => exact ⟨j + 1, ⟨q1, q2, q3, q4, q5, q6⟩, by have := HLT.out; omega, rfl, by go_num, HOKQ.out, kpW.page (.int .i64 q1) (.int .u8 q2) (.int .i64 q3) (.int .u8 q4) (.int .i64 q5) (.int .i64 q6), below_page hbW le5 (.int .i64 q1) (.int .u8 q2) (.int .i64 q3) (.int .u8 q4) (.int .i64 q5) (.int .i64 q6)⟩
        · have hz := step_not hpk HQ.out he
          simp only [z, Pg.mk.injEq] at hz
          obtain ⟨rfl, rfl, rfl, rfl, rfl, rfl⟩ := hz
          have h12 := same12_yes ⟨0, 0, 0, 0, 0, 0⟩
          go_wp2_with (go_at_call 12; refine (h12 _).mono ?_; clear h12; rintro e' v2 ⟨rfl, hq2⟩; have kpW := kpW.later hq2; have hbW := bl_trans hbW hq2 hbW.size; clear hq2)
          go_roundg (n - (j + 1))
          case measure => have := HLT.out; omega
          case rel => exact ⟨j + 1, ⟨p1, p2, p3, p4, p5, p6⟩, by have := HLT.out; omega, rfl, by go_num, HOK.out, kpW, hbW⟩
      · have kpW := kp.page_far (b := wr.heap.size) n58 (.int .i64 q1) (.int .u8 q2) (.int .i64 q3) (.int .u8 q4) (.int .i64 q5) (.int .i64 q6)
        have kqW := kz.page (.int .i64 q1) (.int .u8 q2) (.int .i64 q3) (.int .u8 q4) (.int .i64 q5) (.int .i64 q6)
        have hbW := below_page (bl_trans HB.out hq1 HB.out.size) (b := wr.heap.size) hbs (.int .i64 q1) (.int .u8 q2) (.int .i64 q3) (.int .u8 q4) (.int .i64 q5) (.int .i64 q6)
        have hb8 := hbs
        have n5 := n58
        clear hq0 kz zc0 zc1 zc2 zc3 zc4 zc5 zf0 zf1 zf2 zf3 zf4 zf5
        clear pc0 pc1 pc2 pc3 pc4 pc5 t0 t1 t2 ka kw kv hq1 kp
        obtain ⟨W, hW⟩ : ∃ W, W = ((((((v1.setCell ⟨wr.heap.size, 0, none⟩ (.int .i64 q1)).setCell ⟨wr.heap.size, 1, none⟩ (.int .u8 q2)).setCell ⟨wr.heap.size, 2, none⟩ (.int .i64 q3)).setCell ⟨wr.heap.size, 3, none⟩ (.int .u8 q4)).setCell ⟨wr.heap.size, 4, none⟩ (.int .i64 q5)).setCell ⟨wr.heap.size, 5, none⟩ (.int .i64 q6)) := ⟨_, rfl⟩
        rw [← hW] at kpW kqW hbW ⊢
        clear hW
        obtain ⟨⟨pc0, pc1, pc2, pc3, pc4, pc5⟩, pf0, pf1, pf2, pf3, pf4, pf5⟩ := page_cells kpW
        obtain ⟨⟨zc0, zc1, zc2, zc3, zc4, zc5⟩, zf0, zf1, zf2, zf3, zf4, zf5⟩ := page_cells kqW
        by_cases he : e = 0
        · subst he
          obtain ⟨_, hokq, hle', hway⟩ := step_fine hpk HQ.out
          simp only at hle'
          have h18 := check18_ok hokq
          have h21 := way21 HOK.out hway
          have HOKQ := hid hokq
          clear hokq hway
          go_wp2_with (first | (go_at_call 18; refine (h18 _).mono ?_; clear h18; rintro e' v2 ⟨rfl, hq2⟩; have kpW := kpW.later hq2; have kqW := kqW.later hq2; have hbW := bl_trans hbW hq2 hbW.size; clear hq2; obtain ⟨⟨pc0, pc1, pc2, pc3, pc4, pc5⟩, pf0, pf1, pf2, pf3, pf4, pf5⟩ := page_cells kpW; obtain ⟨⟨zc0, zc1, zc2, zc3, zc4, zc5⟩, zf0, zf1, zf2, zf3, zf4, zf5⟩ := page_cells kqW) | (go_at_call 21; refine (h21 _).mono ?_; clear h21; rintro e' v3 ⟨rfl, hq2⟩; have kpW := kpW.later hq2; have kqW := kqW.later hq2; have hbW := bl_trans hbW hq2 hbW.size; clear hq2; obtain ⟨⟨pc0, pc1, pc2, pc3, pc4, pc5⟩, pf0, pf1, pf2, pf3, pf4, pf5⟩ := page_cells kpW; obtain ⟨⟨zc0, zc1, zc2, zc3, zc4, zc5⟩, zf0, zf1, zf2, zf3, zf4, zf5⟩ := page_cells kqW))
          go_roundg (n - (j + 1))
          case measure => have := HLT.out; omega
          case rel => exact ⟨j + 1, ⟨q1, q2, q3, q4, q5, q6⟩, by have := HLT.out; omega, rfl, by go_num, HOKQ.out, kpW.page (.int .i64 q1) (.int .u8 q2) (.int .i64 q3) (.int .u8 q4) (.int .i64 q5) (.int .i64 q6), below_page hbW le5 (.int .i64 q1) (.int .u8 q2) (.int .i64 q3) (.int .u8 q4) (.int .i64 q5) (.int .i64 q6)⟩
        · have hz := step_not hpk HQ.out he
          simp only [z, Pg.mk.injEq] at hz
          obtain ⟨rfl, rfl, rfl, rfl, rfl, rfl⟩ := hz
          have h12 := same12_yes ⟨0, 0, 0, 0, 0, 0⟩
          go_wp2_with (go_at_call 12; refine (h12 _).mono ?_; clear h12; rintro e' v2 ⟨rfl, hq2⟩; have kpW := kpW.later hq2; have hbW := bl_trans hbW hq2 hbW.size; clear hq2)
          go_roundg (n - (j + 1))
          case measure => have := HLT.out; omega
          case rel => exact ⟨j + 1, ⟨p1, p2, p3, p4, p5, p6⟩, by have := HLT.out; omega, rfl, by go_num, HOK.out, kpW, hbW⟩
    · obtain rfl : j = n := by omega
      go_wp2_with fail
      go_ret
      exact ⟨rfl, hb⟩
end Go.Proofs.Ytagehcnbllkipaa
