/- A primary answers without waiting for the other site, as many times as its leash allows: of any acts. No condition. (part 17) -/
import Derived.Test.YtbpnbcjgkbpmgaaGreatProg
import Derived.Maps.Own
import Derived.Maps.OwnOps
import Derived.Test.YtbpnbcjgkbpmgaaGreatMAa
import Derived.Test.YtbpnbcjgkbpmgaaGreatMAp
namespace Go.Proofs.YtbpnbcjgkbpmgaaGreat
open Go.RowKit Go.Lg Ds St
set_option linter.unusedVariables false
set_option linter.unusedSimpArgs false
def told (r : Option (ByteArray × Bool)) : ByteArray × Bool := match r with | none => (⟨#[]⟩, false) | some x => x
def SGet (r : ByteArray × Bool) (w : World) (e : Ending) (w' : World) : Prop := e = .returned (.tuple #[.string r.1, .bool r.2]) ∧ Below w.heap.size w w'
set_option maxHeartbeats 1000000 in
set_option maxRecDepth 100000 in
theorem sget151 {w : World} {F H : Fp} {z rz dz n : Nat} {cs : List Cmt} (h : Sr w F z rz n cs) (hr : R0 w H rz dz) (key : ByteArray) (hk : key.size ≤ maxLen) : Calls Tryz.prog 151 #[P z, .string key] w (SGet (told (tabOf cs (kb key))) w) := by
  have hn := snone180 h
  obtain ⟨tz, v, ms, inz, blk, tb, hms, cl⟩ := h
  obtain ⟨c0, c1, c2⟩ := scells blk
  have hg := tget34 tb key hk
  have HR := hid hr
  have HB := hid blk
  clear tb cl hr hms
  go_enter Tryz.func151, Tryz.ntmps151
  go_wp2_with (first | (go_at_call 180; (with_reducible refine hn.mono ?_); rintro e' w1 ⟨rfl, rfl⟩) | (go_at_call 34; refine stop_ (fun Ps hPs => ?_)))
  refine hPs ?_
  clear hPs Ps
  refine hg.mono ?_
  rintro e' w1 ⟨⟨s, m, t, rfl, hst⟩, hb⟩
  obtain ⟨d0, d1, d2⟩ := scells (HB.out.later hb)
  have hrg := rget181 (HR.out.mv (bmv hb H)) key
  have HB1 := hid hb
  clear hb hg blk
  cases hf : tabOf cs (kb key) with
  | none =>
    rw [hf] at hst
    simp only [Prod.mk.injEq] at hst
    obtain ⟨rfl, rfl, rfl⟩ := hst
    have HF := hid hf
    clear hf
    go_wp2_with (go_at_call 181; refine stop_ (fun Ps hPs => ?_))
    refine hPs ?_
    clear hPs Ps
    refine hrg.mono ?_
    rintro e' w2 ⟨rfl, hb2⟩
    have HB2 := hid hb2
    clear hb2 hrg
    go_wp2_with fail
    go_ret2
    exact ⟨by rw [HF.out]; rfl, bl_trans HB1.out HB2.out HB1.out.size⟩
  | some x =>
    obtain ⟨xv, xt⟩ := x
    rw [hf] at hst
    simp only [Prod.mk.injEq] at hst
    obtain ⟨rfl, rfl, rfl⟩ := hst
    have HF := hid hf
    clear hf hrg
    go_wp2_with fail
    go_ret2
    exact ⟨by rw [HF.out]; rfl, HB1.out⟩
set_option maxHeartbeats 1000000 in
set_option maxRecDepth 100000 in
theorem sopen196 {w : World} {H : Fp} {rz dz : Nat} (hr : R0 w H rz dz) : Calls Tryz.prog 196 #[P rz, .slice none 0 0] w (NewO w fun w' F z => Sr w' F z rz 0 []) := by
  have hi := ris228 hr
  have he := rend128 hr
  have hf := follows37 none 0 0 [] 1 0 w ⟨⟨rfl, fun h => absurd h (Nat.lt_irrefl _)⟩, rfl, fun m hm => by cases hm⟩ (by omega)
  rw [show fol 1 0 0 [] = (0, 0) from rfl] at hf
  clear hr
  go_enter Tryz.func196, Tryz.ntmps196
  go_wp2_with (first | (go_at_call 228; (with_reducible refine hi.mono ?_); rintro e' w1 ⟨rfl, rfl⟩) | (go_at_call 128; (with_reducible refine he.mono ?_); rintro e' w1 ⟨rfl, rfl⟩) | (go_at_call 112; refine stop_ (fun Ps hPs => ?_)))
  refine hPs ?_
  clear hPs Ps
  refine hf.mono ?_
  rintro e' w1 ⟨rfl, hb⟩
  have HB := hid hb
  clear hb hf hi he
  go_wp2_with (go_at_call 32; refine stop_ (fun Ps hPs => ?_))
  refine hPs ?_
  clear hPs Ps
  refine (tnew32 _).mono ?_
  rintro e' w2 ⟨tz, F, rfl, ht, hb2, hF⟩
  have hl := hb2.size
  have HT := hid ht
  have HB2 := hid hb2
  have HF := hid hF
  clear ht hb2 hF
  go_wp2_with fail
  go_loopg [28] 0 (fun k i wr => k = 0 ∧ i = .int .i64 0 ∧ wr = w2.alloc (.cells #[P tz, P rz, .slice none 0 0] 256))
  case atStart => exact ⟨rfl, rfl, rfl⟩
  case round =>
    obtain ⟨rfl, rfl, rfl⟩ := hrel
    go_wp2_with fail
    go_ret2
    have hs0 : w.heap.size ≤ w1.heap.size := HB.out.size
    have hs1 : w1.heap.size + 1 ≤ w2.heap.size := by have := HB2.out.size; simpa using this
    refine ⟨w2.heap.size, fun k => w.heap.size ≤ k, rfl, ⟨tz, .slice none 0 0, [], by omega, Blk.new _ _ _, ?_, rfl, Cl.nil_ _ _⟩, ?_, fun k hk => hk⟩
    · exact (HT.out.to (fun k hk => by have := HF.out k hk; simp at this; omega)).mv (bmv ((Below.refl _ _).alloc (Nat.le_refl _) _) _)
    · exact (bl_trans (HB.out.alloc HB.out.size _) HB2.out (by simp; omega)).alloc (by omega) _
end Go.Proofs.YtbpnbcjgkbpmgaaGreat
namespace Go.Proofs.YtbpnbcjgkbpmgaaGreat.Pp
open Go.RowKit Go.Lg
set_option linter.unusedVariables false
set_option linter.unusedSimpArgs false
structure Pg where
  (ep ro ac ph fo ba : Int)
deriving DecidableEq
abbrev Pg.v (p : Pg) : Value := .agg #[.int .i64 p.ep, .int .u8 p.ro, .int .i64 p.ac, .int .u8 p.ph, .int .i64 p.fo, .int .i64 p.ba]
abbrev Pg.cs (p : Pg) : Array Value := #[.int .i64 p.ep, .int .u8 p.ro, .int .i64 p.ac, .int .u8 p.ph, .int .i64 p.fo, .int .i64 p.ba]
def Tells (p : Prop) (w : World) (e : Ending) (w' : World) : Prop := (∃ b, e = .returned (.bool b) ∧ (b = true ↔ p)) ∧ Below w.heap.size w w'
def Num (n : Int) (w : World) (e : Ending) (w' : World) : Prop := e = .returned (.int .i64 n) ∧ Below w.heap.size w w'
theorem Tells.get {p : Prop} [Decidable p] {w w' : World} {e : Ending} (h : Tells p w e w') : e = .returned (.bool (decide p)) ∧ Below w.heap.size w w' := by
  obtain ⟨⟨b, rfl, hb⟩, h⟩ := h
  refine ⟨?_, h⟩
  by_cases hp : p
  · rw [hb.2 hp]; simp [hp]
  · cases b
    · simp [hp]
    · exact absurd (hb.1 rfl) hp
theorem bl_trans {B : Nat} {a b c : World} (h : Below B a b) (k : Below b.heap.size b c) (hB : B ≤ b.heap.size) : Below B a c :=
  h.trans (k.mono hB)
def Asks (p : Prop) (w : World) (e : Ending) (w' : World) : Prop := (∃ b, e = .returned (.bool b) ∧ (b = true ↔ p)) ∧ w' = w
theorem Asks.get {p : Prop} [Decidable p] {w w' : World} {e : Ending} (h : Asks p w e w') : e = .returned (.bool (decide p)) ∧ w' = w := by
  obtain ⟨⟨b, rfl, hb⟩, h⟩ := h
  refine ⟨?_, h⟩
  by_cases hp : p
  · rw [hb.2 hp]; simp [hp]
  · cases b
    · simp [hp]
    · exact absurd (hb.1 rfl) hp
set_option maxHeartbeats 800000 in
set_option maxRecDepth 100000 in
theorem within33 (n lo hi : Int) (w : World) : Calls Tryz.prog 123 #[.int .i64 n, .int .i64 lo, .int .i64 hi] w fun e w' => Asks (lo ≤ n ∧ n ≤ hi) w e w' := by
  go_enter Tryz.func123, Tryz.ntmps123
  go_wp2_with fail
  all_goals
    go_ret
    refine ⟨⟨_, rfl, ?_⟩, rfl⟩
    simp
    omega
set_option maxHeartbeats 800000 in
set_option maxRecDepth 100000 in
theorem within35 (n lo hi : Int) (w : World) : Calls Tryz.prog 157 #[.int .i64 n, .int .i64 lo, .int .i64 hi] w fun e w' => Asks (lo ≤ n ∧ n ≤ hi) w e w' := by
  go_enter Tryz.func157, Tryz.ntmps157
  go_wp2_with fail
  all_goals
    go_ret
    refine ⟨⟨_, rfl, ?_⟩, rfl⟩
    simp
    omega
def Dep (p : Pg) : Prop := (p.ph = 1 ∧ p.fo = 0 ∧ p.ba = 0) ∨ (2 ≤ p.ph ∧ p.ph ≤ 4 ∧ 0 ≤ p.fo ∧ p.fo ≤ 1048576 ∧ 0 ≤ p.ba ∧ p.ba ≤ 1073741824)
instance (p : Pg) : Decidable (Dep p) := by unfold Dep; infer_instance
set_option maxHeartbeats 800000 in
set_option maxRecDepth 100000 in
theorem deposed36 (p : Pg) (w : World) : Calls Tryz.prog 158 #[p.v] w fun e w' => Tells (Dep p) w e w' := by
  obtain ⟨a1, a2, a3, a4, a5, a6⟩ := p
  go_enter Tryz.func158, Tryz.ntmps158
  go_wp2_with (go_at_call 157; refine (within35 _ _ _ _).mono ?_; rintro e w1 h; obtain ⟨rfl, rfl⟩ := h.get; clear h)
  all_goals
    go_ret
    refine ⟨⟨_, rfl, ?_⟩, (Below.refl _ _).alloc (Nat.le_refl _) _⟩
    try simp only [beq_iff_eq, bne_iff_ne, beq_eq_false_iff_ne, decide_eq_true_eq] at *
    simp only [Dep]
    try simp
    try omega
def Ok (p : Pg) : Prop := 1 ≤ p.ep ∧ p.ep ≤ 1048576 ∧
  ((p.ro = 1 ∧ 0 ≤ p.ac ∧ p.ac ≤ 1048576 ∧ p.ph = 0 ∧ p.fo = 0 ∧ p.ba = 0) ∨ (p.ro = 2 ∧ p.ac = 0 ∧ p.ph = 0 ∧ p.fo = 0 ∧ p.ba = 0) ∨ (p.ro = 3 ∧ p.ac = 0 ∧ Dep p))
instance (p : Pg) : Decidable (Ok p) := by unfold Ok; infer_instance
def err (p : Pg) : Int := if Ok p then 0 else 2
theorem num_of {p : Prop} [Decidable p] {n : Int} (h : (p ∧ n = 0) ∨ (¬p ∧ n = 2)) : Ending.returned (.int .i64 n) = .returned (.int .i64 (if p then 0 else 2)) := by
  rcases h with ⟨h, rfl⟩ | ⟨h, rfl⟩ <;> simp [h]
set_option maxHeartbeats 800000 in
set_option maxRecDepth 100000 in
theorem check18 (p : Pg) (w : World) : Calls Tryz.prog 109 #[p.v] w (Num (err p) w) := by
  obtain ⟨a1, a2, a3, a4, a5, a6⟩ := p
  go_enter Tryz.func109, Tryz.ntmps109
  go_wp2_with (first | (go_at_call 157; refine (within35 _ _ _ _).mono ?_; rintro e w1 h; obtain ⟨rfl, rfl⟩ := h.get; clear h) | (go_at_call 158; refine (deposed36 ⟨_, _, _, _, _, _⟩ _).mono ?_; rintro e w1 h; obtain ⟨rfl, hb⟩ := h.get; clear h))
  all_goals
    go_ret
    refine ⟨num_of ?_, ?_⟩
    · try simp only [beq_iff_eq, bne_iff_ne, beq_eq_false_iff_ne, decide_eq_true_eq, Bool.not_eq_true', Bool.not_eq_false', decide_eq_false_iff_not, bne_eq_false_iff_eq] at *
      try simp only [Dep] at *
      first | (refine .inl ⟨?_, by simp⟩; simp only [Ok, Dep]; omega) | (refine .inr ⟨fun hA => ?_, by simp⟩; simp only [Ok, Dep] at hA; omega)
    · first | exact (Below.refl _ _).alloc (Nat.le_refl _) _ | exact bl_trans ((Below.refl _ _).alloc (Nat.le_refl _) _) hb (by simp)
end Go.Proofs.YtbpnbcjgkbpmgaaGreat.Pp
namespace Go.Proofs.YtbpnbcjgkbpmgaaGreat.Pp
open Go.RowKit Go.Lg Go.Maps
set_option linter.unusedVariables false
set_option linter.unusedSimpArgs false
def Dm : DataW Unit := (((DataW.map []).put (.int .u8 1) (.lit (.int .u8 2))).put (.int .u8 2) (.lit (.int .u8 3))).put (.int .u8 3) (.lit (.int .u8 4))
def Phases (w : World) (e : Ending) (w' : World) : Prop := ∃ b, e = .returned (.map (some b)) ∧ w'.ownsMap Tryz.prog 41 (plainElem Tryz.prog 41) b 3 Dm ∧ Below w.heap.size w w'
end Go.Proofs.YtbpnbcjgkbpmgaaGreat.Pp
namespace Go.Proofs.YtbpnbcjgkbpmgaaGreat.Pp
open Go.RowKit Go.Lg
set_option linter.unusedVariables false
set_option linter.unusedSimpArgs false
def z : Pg := ⟨0, 0, 0, 0, 0, 0⟩
def promote (p : Pg) (n : Int) : Pg × Int :=
  if Ok p then (if 0 ≤ n ∧ n ≤ 1048576 then (if p.ro = 1 then (z, 10) else if p.ro = 3 then (z, 9) else if p.ep = 1048576 then (z, 2) else (⟨p.ep + 1, 1, n, 0, 0, 0⟩, 0)) else (z, 2)) else (z, 2)
def hear (p : Pg) (n : Int) : Pg × Bool × Int :=
  if Ok p then (if 1 ≤ n ∧ n ≤ 1048576 then (if p.ep < n then (⟨n, 3, 0, 1, 0, 0⟩, true, 0) else (p, false, 0)) else (z, false, 2)) else (z, false, 2)
def step (p : Pg) (f : Int) : Pg × Int :=
  if Ok p then (if p.ph = f then ({ p with ph := f + 1 }, 0) else (z, 15)) else (z, 2)
def fork (p : Pg) (n m : Int) : Pg × Int :=
  if Ok p then (if (0 ≤ n ∧ n ≤ 1048576) ∧ (0 ≤ m ∧ m ≤ 1073741824) then (if p.ph = 1 then ({ p with ph := 2, fo := n, ba := m }, 0) else (z, 15)) else (z, 2)) else (z, 2)
def rejoin (p : Pg) : Pg × Int :=
  if Ok p then (if p.ph = 4 then (⟨p.ep, 2, 0, 0, 0, 0⟩, 0) else (z, 15)) else (z, 2)
def acked (p : Pg) (n : Int) : Pg × Bool × Int :=
  if Ok p then (if 0 ≤ n ∧ n ≤ 1048576 then (if p.ro = 1 then (if p.ac < n then ({ p with ac := n }, true, 0) else (p, false, 0)) else (z, false, 15)) else (z, false, 2)) else (z, false, 2)
def writes (p : Pg) : Int := if Ok p then (if p.ro = 2 then 11 else if p.ro = 3 then 9 else 0) else 2
def reads (p : Pg) : Int := if Ok p then (if p.ro = 3 then 9 else 0) else 2
def Gives (r : Pg × Int) (w : World) (e : Ending) (w' : World) : Prop := e = .returned (.tuple #[r.1.v, .int .i64 r.2]) ∧ Below w.heap.size w w'
def Gives3 (r : Pg × Bool × Int) (w : World) (e : Ending) (w' : World) : Prop := e = .returned (.tuple #[r.1.v, .bool r.2.1, .int .i64 r.2.2]) ∧ Below w.heap.size w w'
theorem check18_ok {p : Pg} (h : Ok p) (w : World) : Calls Tryz.prog 109 #[p.v] w (Num 0 w) := by
  have := check18 p w
  rwa [err, if_pos h] at this
theorem check18_no {p : Pg} (h : ¬Ok p) (w : World) : Calls Tryz.prog 109 #[p.v] w (Num 2 w) := by
  have := check18 p w
  rwa [err, if_neg h] at this
theorem page_cells {w : World} {g : Nat} {a1 a2 a3 a4 a5 a6 : Int} (h : Blk w g 43 #[.int .i64 a1, .int .u8 a2, .int .i64 a3, .int .u8 a4, .int .i64 a5, .int .i64 a6]) :
    (w.cell? ⟨g, 0, none⟩ = some (.int .i64 a1) ∧ w.cell? ⟨g, 1, none⟩ = some (.int .u8 a2) ∧ w.cell? ⟨g, 2, none⟩ = some (.int .i64 a3) ∧ w.cell? ⟨g, 3, none⟩ = some (.int .u8 a4) ∧ w.cell? ⟨g, 4, none⟩ = some (.int .i64 a5) ∧ w.cell? ⟨g, 5, none⟩ = some (.int .i64 a6)) ∧
    (w.frozen? ⟨g, 0, none⟩ = false ∧ w.frozen? ⟨g, 1, none⟩ = false ∧ w.frozen? ⟨g, 2, none⟩ = false ∧ w.frozen? ⟨g, 3, none⟩ = false ∧ w.frozen? ⟨g, 4, none⟩ = false ∧ w.frozen? ⟨g, 5, none⟩ = false) :=
  ⟨⟨h.cell 0, h.cell 1, h.cell 2, h.cell 3, h.cell 4, h.cell 5⟩, h.frozen 0, h.frozen 1, h.frozen 2, h.frozen 3, h.frozen 4, h.frozen 5⟩
theorem Blk.new2 (w : World) (o : Obj) (t : TypeId) (cs : Array Value) : Blk ((w.alloc o).alloc (.cells cs t)) (w.heap.size + 1) t cs := by
  simpa using Blk.new (w.alloc o) t cs
theorem two_blocks {w w1 : World} {A B : Array Value} (hb : Below ((w.alloc (.cells A 43)).alloc (.cells B 43)).heap.size ((w.alloc (.cells A 43)).alloc (.cells B 43)) w1) :
    Below w.heap.size w w1 ∧ Blk w1 w.heap.size 43 A ∧ Blk w1 (w.heap.size + 1) 43 B :=
  ⟨bl_trans (((Below.refl w.heap.size w).alloc (Nat.le_refl _) _).alloc (by simp) _) hb (by simp; omega), ((Blk.new w 43 A).alloc _).below hb (by simp; omega), (Blk.new2 w _ 43 B).below hb (by simp)⟩
theorem one_block {w w1 : World} {A : Array Value} (hb : Below (w.alloc (.cells A 43)).heap.size (w.alloc (.cells A 43)) w1) :
    Below w.heap.size w w1 ∧ Blk w1 w.heap.size 43 A :=
  ⟨bl_trans ((Below.refl w.heap.size w).alloc (Nat.le_refl _) _) hb (by simp), (Blk.new w 43 A).below hb (by simp)⟩
theorem _root_.Go.Lg.Blk.page {w : World} {g : Nat} {x0 x1 x2 x3 x4 x5 : Value} (h : Blk w g 43 #[x0, x1, x2, x3, x4, x5]) (y0 y1 y2 y3 y4 y5 : Value) :
    Blk ((((((w.setCell ⟨g, 0, none⟩ y0).setCell ⟨g, 1, none⟩ y1).setCell ⟨g, 2, none⟩ y2).setCell ⟨g, 3, none⟩ y3).setCell ⟨g, 4, none⟩ y4).setCell ⟨g, 5, none⟩ y5) g 43 #[y0, y1, y2, y3, y4, y5] :=
  (((((h.set_ 0 y0).set_ 1 y1).set_ 2 y2).set_ 3 y3).set_ 4 y4).set_ 5 y5
theorem _root_.Go.Lg.Blk.page_far {w : World} {g b : Nat} {cs : Array Value} (h : Blk w g 43 cs) (hg : g ≠ b) (y0 y1 y2 y3 y4 y5 : Value) :
    Blk ((((((w.setCell ⟨b, 0, none⟩ y0).setCell ⟨b, 1, none⟩ y1).setCell ⟨b, 2, none⟩ y2).setCell ⟨b, 3, none⟩ y3).setCell ⟨b, 4, none⟩ y4).setCell ⟨b, 5, none⟩ y5) g 43 cs :=
  (((((h.far (p := ⟨b, 0, none⟩) hg y0).far (p := ⟨b, 1, none⟩) hg y1).far (p := ⟨b, 2, none⟩) hg y2).far (p := ⟨b, 3, none⟩) hg y3).far (p := ⟨b, 4, none⟩) hg y4).far (p := ⟨b, 5, none⟩) hg y5
theorem below_page {w0 w : World} {B b : Nat} (h : Below B w0 w) (hb : B ≤ b) (y0 y1 y2 y3 y4 y5 : Value) :
    Below B w0 ((((((w.setCell ⟨b, 0, none⟩ y0).setCell ⟨b, 1, none⟩ y1).setCell ⟨b, 2, none⟩ y2).setCell ⟨b, 3, none⟩ y3).setCell ⟨b, 4, none⟩ y4).setCell ⟨b, 5, none⟩ y5) :=
  (((((h.setCell (p := ⟨b, 0, none⟩) hb y0).setCell (p := ⟨b, 1, none⟩) hb y1).setCell (p := ⟨b, 2, none⟩) hb y2).setCell (p := ⟨b, 3, none⟩) hb y3).setCell (p := ⟨b, 4, none⟩) hb y4).setCell (p := ⟨b, 5, none⟩) hb y5
theorem ret2 {r : Pg × Int} {q : Pg} {k : Int} (h : r = (q, k)) : Ending.returned (.tuple #[q.v, .int .i64 k]) = .returned (.tuple #[r.1.v, .int .i64 r.2]) := by rw [h]
theorem ret3 {r : Pg × Bool × Int} {q : Pg} {b : Bool} {k : Int} (h : r = (q, b, k)) : Ending.returned (.tuple #[q.v, .bool b, .int .i64 k]) = .returned (.tuple #[r.1.v, .bool r.2.1, .int .i64 r.2.2]) := by rw [h]
set_option maxHeartbeats 1600000 in
set_option maxRecDepth 100000 in
theorem promote7 (p : Pg) (n : Int) (w : World) : Calls Tryz.prog 97 #[p.v, .int .i64 n] w (Gives (promote p n) w) := by
  obtain ⟨a1, a2, a3, a4, a5, a6⟩ := p
  by_cases hok : Ok ⟨a1, a2, a3, a4, a5, a6⟩
  · have hc := @check18_ok _ hok
    go_enter Tryz.func97, Tryz.ntmps97
    have hr : 1 ≤ a1 ∧ a1 ≤ 1048576 := ⟨hok.1, hok.2.1⟩
    have hw : wrap64 (a1 + 1) = a1 + 1 := by simp only [wrap64]; omega
    go_wp2_with (first | (go_at_call 109; refine (hc _).mono ?_; clear hc; rintro e w1 ⟨rfl, hb⟩; obtain ⟨hb, hA, hB⟩ := two_blocks hb; obtain ⟨⟨c0, c1, c2, c3, c4, c5⟩, f0, f1, f2, f3, f4, f5⟩ := page_cells hA; obtain ⟨⟨d0, d1, d2, d3, d4, d5⟩, g0, g1, g2, g3, g4, g5⟩ := page_cells hB) | (go_at_call 123; refine (within33 _ _ _ _).mono ?_; rintro e w2 h; obtain ⟨rfl, rfl⟩ := h.get; clear h))
    all_goals
      refine bodyPost_ret (by simp [results, Tryz.results97, go_sem, d0, d1, d2, d3, d4, d5]; try rfl) rfl ?_
      try simp only [beq_iff_eq, bne_iff_ne, beq_eq_false_iff_ne, decide_eq_true_eq, Bool.not_eq_true', Bool.not_eq_false', decide_eq_false_iff_not, bne_eq_false_iff_eq] at *
      refine ⟨ret2 (q := ⟨_, _, _, _, _, _⟩) ?_, ?_⟩
      · simp only [promote, if_pos hok]
        repeat' split
        all_goals first | rfl | (exfalso; omega) | (simp [z] <;> omega)
      · repeat (first | (with_reducible exact hb) | (with_reducible refine Below.setCell ?_ (by simp) _))
  · have hc := @check18_no _ hok
    go_enter Tryz.func97, Tryz.ntmps97
    go_wp2_with (first | (go_at_call 109; refine (hc _).mono ?_; clear hc; rintro e w1 ⟨rfl, hb⟩; obtain ⟨hb, hA, hB⟩ := two_blocks hb; obtain ⟨⟨c0, c1, c2, c3, c4, c5⟩, f0, f1, f2, f3, f4, f5⟩ := page_cells hA; obtain ⟨⟨d0, d1, d2, d3, d4, d5⟩, g0, g1, g2, g3, g4, g5⟩ := page_cells hB) | (go_at_call 123; refine (within33 _ _ _ _).mono ?_; rintro e w2 h; obtain ⟨rfl, rfl⟩ := h.get; clear h))
    all_goals
      refine bodyPost_ret (by simp [results, Tryz.results97, go_sem, d0, d1, d2, d3, d4, d5]; try rfl) rfl ?_
      try simp only [beq_iff_eq, bne_iff_ne, beq_eq_false_iff_ne, decide_eq_true_eq, Bool.not_eq_true', Bool.not_eq_false', decide_eq_false_iff_not, bne_eq_false_iff_eq] at *
      refine ⟨ret2 (q := ⟨_, _, _, _, _, _⟩) ?_, ?_⟩
      · simp only [promote, if_neg hok]
        repeat' split
        all_goals first | rfl | (exfalso; omega) | (simp [z] <;> omega)
      · repeat (first | (with_reducible exact hb) | (with_reducible refine Below.setCell ?_ (by simp) _))
set_option maxHeartbeats 1600000 in
set_option maxRecDepth 100000 in
theorem hear13 (p : Pg) (n : Int) (w : World) : Calls Tryz.prog 79 #[p.v, .int .i64 n] w (Gives3 (hear p n) w) := by
  obtain ⟨a1, a2, a3, a4, a5, a6⟩ := p
  by_cases hok : Ok ⟨a1, a2, a3, a4, a5, a6⟩
  · have hc := @check18_ok _ hok
    go_enter Tryz.func79, Tryz.ntmps79
    go_wp2_with (first | (go_at_call 109; refine (hc _).mono ?_; clear hc; rintro e w1 ⟨rfl, hb⟩; obtain ⟨hb, hA, hB⟩ := two_blocks hb; obtain ⟨⟨c0, c1, c2, c3, c4, c5⟩, f0, f1, f2, f3, f4, f5⟩ := page_cells hA; obtain ⟨⟨d0, d1, d2, d3, d4, d5⟩, g0, g1, g2, g3, g4, g5⟩ := page_cells hB) | (go_at_call 123; refine (within33 _ _ _ _).mono ?_; rintro e w2 h; obtain ⟨rfl, rfl⟩ := h.get; clear h))
    all_goals
      refine bodyPost_ret (by simp [results, Tryz.results79, go_sem, d0, d1, d2, d3, d4, d5]; try rfl) rfl ?_
      try simp only [beq_iff_eq, bne_iff_ne, beq_eq_false_iff_ne, decide_eq_true_eq, Bool.not_eq_true', Bool.not_eq_false', decide_eq_false_iff_not, bne_eq_false_iff_eq] at *
      refine ⟨ret3 (q := ⟨_, _, _, _, _, _⟩) ?_, ?_⟩
      · simp only [hear, if_pos hok]
        repeat' split
        all_goals first | rfl | (exfalso; omega) | (simp [z] <;> omega)
      · repeat (first | (with_reducible exact hb) | (with_reducible refine Below.setCell ?_ (by simp) _))
  · have hc := @check18_no _ hok
    go_enter Tryz.func79, Tryz.ntmps79
    go_wp2_with (first | (go_at_call 109; refine (hc _).mono ?_; clear hc; rintro e w1 ⟨rfl, hb⟩; obtain ⟨hb, hA, hB⟩ := two_blocks hb; obtain ⟨⟨c0, c1, c2, c3, c4, c5⟩, f0, f1, f2, f3, f4, f5⟩ := page_cells hA; obtain ⟨⟨d0, d1, d2, d3, d4, d5⟩, g0, g1, g2, g3, g4, g5⟩ := page_cells hB) | (go_at_call 123; refine (within33 _ _ _ _).mono ?_; rintro e w2 h; obtain ⟨rfl, rfl⟩ := h.get; clear h))
    all_goals
      refine bodyPost_ret (by simp [results, Tryz.results79, go_sem, d0, d1, d2, d3, d4, d5]; try rfl) rfl ?_
      try simp only [beq_iff_eq, bne_iff_ne, beq_eq_false_iff_ne, decide_eq_true_eq, Bool.not_eq_true', Bool.not_eq_false', decide_eq_false_iff_not, bne_eq_false_iff_eq] at *
      refine ⟨ret3 (q := ⟨_, _, _, _, _, _⟩) ?_, ?_⟩
      · simp only [hear, if_neg hok]
        repeat' split
        all_goals first | rfl | (exfalso; omega) | (simp [z] <;> omega)
      · repeat (first | (with_reducible exact hb) | (with_reducible refine Below.setCell ?_ (by simp) _))
set_option maxHeartbeats 1600000 in
set_option maxRecDepth 100000 in
theorem writes15 (p : Pg) (w : World) : Calls Tryz.prog 148 #[p.v] w (Num (writes p) w) := by
  obtain ⟨a1, a2, a3, a4, a5, a6⟩ := p
  by_cases hok : Ok ⟨a1, a2, a3, a4, a5, a6⟩
  · have hc := @check18_ok _ hok
    go_enter Tryz.func148, Tryz.ntmps148
    go_wp2_with (first | (go_at_call 109; refine (hc _).mono ?_; clear hc; rintro e w1 ⟨rfl, hb⟩; obtain ⟨hb, hA⟩ := one_block hb; obtain ⟨⟨c0, c1, c2, c3, c4, c5⟩, f0, f1, f2, f3, f4, f5⟩ := page_cells hA))
    all_goals
      go_ret
      try simp only [beq_iff_eq, bne_iff_ne, beq_eq_false_iff_ne, decide_eq_true_eq, Bool.not_eq_true', Bool.not_eq_false', decide_eq_false_iff_not, bne_eq_false_iff_eq] at *
      refine ⟨rd_int ?_, ?_⟩
      · simp only [writes, if_pos hok]
        repeat' split
        all_goals first | rfl | (exfalso; omega) | (simp [z] <;> omega)
      · repeat (first | (with_reducible exact hb) | (with_reducible refine Below.setCell ?_ (by simp) _))
  · have hc := @check18_no _ hok
    go_enter Tryz.func148, Tryz.ntmps148
    go_wp2_with (first | (go_at_call 109; refine (hc _).mono ?_; clear hc; rintro e w1 ⟨rfl, hb⟩; obtain ⟨hb, hA⟩ := one_block hb; obtain ⟨⟨c0, c1, c2, c3, c4, c5⟩, f0, f1, f2, f3, f4, f5⟩ := page_cells hA))
    all_goals
      go_ret
      try simp only [beq_iff_eq, bne_iff_ne, beq_eq_false_iff_ne, decide_eq_true_eq, Bool.not_eq_true', Bool.not_eq_false', decide_eq_false_iff_not, bne_eq_false_iff_eq] at *
      refine ⟨rd_int ?_, ?_⟩
      · simp only [writes, if_neg hok]
        repeat' split
        all_goals first | rfl | (exfalso; omega) | (simp [z] <;> omega)
      · repeat (first | (with_reducible exact hb) | (with_reducible refine Below.setCell ?_ (by simp) _))
set_option maxHeartbeats 1600000 in
set_option maxRecDepth 100000 in
theorem reads16 (p : Pg) (w : World) : Calls Tryz.prog 94 #[p.v] w (Num (reads p) w) := by
  obtain ⟨a1, a2, a3, a4, a5, a6⟩ := p
  by_cases hok : Ok ⟨a1, a2, a3, a4, a5, a6⟩
  · have hc := @check18_ok _ hok
    go_enter Tryz.func94, Tryz.ntmps94
    go_wp2_with (first | (go_at_call 109; refine (hc _).mono ?_; clear hc; rintro e w1 ⟨rfl, hb⟩; obtain ⟨hb, hA⟩ := one_block hb; obtain ⟨⟨c0, c1, c2, c3, c4, c5⟩, f0, f1, f2, f3, f4, f5⟩ := page_cells hA))
    all_goals
      go_ret
      try simp only [beq_iff_eq, bne_iff_ne, beq_eq_false_iff_ne, decide_eq_true_eq, Bool.not_eq_true', Bool.not_eq_false', decide_eq_false_iff_not, bne_eq_false_iff_eq] at *
      refine ⟨rd_int ?_, ?_⟩
      · simp only [reads, if_pos hok]
        repeat' split
        all_goals first | rfl | (exfalso; omega) | (simp [z] <;> omega)
      · repeat (first | (with_reducible exact hb) | (with_reducible refine Below.setCell ?_ (by simp) _))
  · have hc := @check18_no _ hok
    go_enter Tryz.func94, Tryz.ntmps94
    go_wp2_with (first | (go_at_call 109; refine (hc _).mono ?_; clear hc; rintro e w1 ⟨rfl, hb⟩; obtain ⟨hb, hA⟩ := one_block hb; obtain ⟨⟨c0, c1, c2, c3, c4, c5⟩, f0, f1, f2, f3, f4, f5⟩ := page_cells hA))
    all_goals
      go_ret
      try simp only [beq_iff_eq, bne_iff_ne, beq_eq_false_iff_ne, decide_eq_true_eq, Bool.not_eq_true', Bool.not_eq_false', decide_eq_false_iff_not, bne_eq_false_iff_eq] at *
      refine ⟨rd_int ?_, ?_⟩
      · simp only [reads, if_neg hok]
        repeat' split
        all_goals first | rfl | (exfalso; omega) | (simp [z] <;> omega)
      · repeat (first | (with_reducible exact hb) | (with_reducible refine Below.setCell ?_ (by simp) _))
end Go.Proofs.YtbpnbcjgkbpmgaaGreat.Pp
