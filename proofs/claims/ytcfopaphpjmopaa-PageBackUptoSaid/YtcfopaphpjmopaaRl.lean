/- The steps of a role, from page to page. -/
import Derived.Test.YtcfopaphpjmopaaTl
namespace Go.Proofs.Ytcfopaphpjmopaa
open Go.RowKit Go.Lg
set_option linter.unusedVariables false
set_option linter.unusedSimpArgs false

def z : Pg := ⟨0, 0, 0, 0, 0, 0⟩
def promote (p : Pg) (n : Int) : Pg × Int :=
  if Ok p then (if 0 ≤ n ∧ n ≤ 1048576 then (if p.ro = 1 then (z, 10) else if p.ro = 3 then (z, 9) else if p.ep = 1048576 then (z, 2) else (⟨p.ep + 1, 1, n, 0, 0, 0⟩, 0)) else (z, 2)) else (z, 2)
def hear (p : Pg) (n : Int) : Pg × Bool × Int :=
  if Ok p then (if 1 ≤ n ∧ n ≤ 1048576 then (if p.ep < n then (⟨n, 3, 0, 1, 0, 0⟩, true, 0) else (p, false, 0)) else (z, false, 2)) else (z, false, 2)
def step (p : Pg) (f : Int) : Pg × Int :=
  if Ok p then (if p.ph = f then ({ p with ph := f + 1 }, 0) else (z, 15)) else (z, 2)
def fork (p : Pg) (n m : Int) : Pg × Int :=
  if Ok p then (if (0 ≤ n ∧ n ≤ 1048576) ∧ (0 ≤ m ∧ m ≤ 1073741824) then (if p.ph = 1 then ({ p with ph := 2, fo := n, ba := m }, 0) else (z, 15)) else (z, 2)) else (z, 2)
def rejoin (p : Pg) : Pg × Int :=
  if Ok p then (if p.ph = 4 then (⟨p.ep, 2, 0, 0, 0, 0⟩, 0) else (z, 15)) else (z, 2)
def acked (p : Pg) (n : Int) : Pg × Bool × Int :=
  if Ok p then (if 0 ≤ n ∧ n ≤ 1048576 then (if p.ro = 1 then (if p.ac < n then ({ p with ac := n }, true, 0) else (p, false, 0)) else (z, false, 15)) else (z, false, 2)) else (z, false, 2)
def writes (p : Pg) : Int := if Ok p then (if p.ro = 2 then 11 else if p.ro = 3 then 9 else 0) else 2
def reads (p : Pg) : Int := if Ok p then (if p.ro = 3 then 9 else 0) else 2

def Gives (r : Pg × Int) (w : World) (e : Ending) (w' : World) : Prop := e = .returned (.tuple #[r.1.v, .int .i64 r.2]) ∧ Below w.heap.size w w'
def Gives3 (r : Pg × Bool × Int) (w : World) (e : Ending) (w' : World) : Prop := e = .returned (.tuple #[r.1.v, .bool r.2.1, .int .i64 r.2.2]) ∧ Below w.heap.size w w'
theorem check18_ok {p : Pg} (h : Ok p) (w : World) : Calls Try.prog 16 #[p.v] w (Num 0 w) := by
  have := check18 p w
  rwa [err, if_pos h] at this
theorem check18_no {p : Pg} (h : ¬Ok p) (w : World) : Calls Try.prog 16 #[p.v] w (Num 2 w) := by
  have := check18 p w
  rwa [err, if_neg h] at this
/-- A page in a block of its own, later. -/
theorem page_cells {w : World} {g : Nat} {a1 a2 a3 a4 a5 a6 : Int} (h : Blk w g 25 #[.int .i64 a1, .int .u8 a2, .int .i64 a3, .int .u8 a4, .int .i64 a5, .int .i64 a6]) :
    (w.cell? ⟨g, 0, none⟩ = some (.int .i64 a1) ∧ w.cell? ⟨g, 1, none⟩ = some (.int .u8 a2) ∧ w.cell? ⟨g, 2, none⟩ = some (.int .i64 a3) ∧ w.cell? ⟨g, 3, none⟩ = some (.int .u8 a4) ∧ w.cell? ⟨g, 4, none⟩ = some (.int .i64 a5) ∧ w.cell? ⟨g, 5, none⟩ = some (.int .i64 a6)) ∧
    (w.frozen? ⟨g, 0, none⟩ = false ∧ w.frozen? ⟨g, 1, none⟩ = false ∧ w.frozen? ⟨g, 2, none⟩ = false ∧ w.frozen? ⟨g, 3, none⟩ = false ∧ w.frozen? ⟨g, 4, none⟩ = false ∧ w.frozen? ⟨g, 5, none⟩ = false) :=
  ⟨⟨h.cell 0, h.cell 1, h.cell 2, h.cell 3, h.cell 4, h.cell 5⟩, h.frozen 0, h.frozen 1, h.frozen 2, h.frozen 3, h.frozen 4, h.frozen 5⟩

theorem Blk.new2 (w : World) (o : Obj) (t : TypeId) (cs : Array Value) : Blk ((w.alloc o).alloc (.cells cs t)) (w.heap.size + 1) t cs := by
  simpa using Blk.new (w.alloc o) t cs
theorem lt2 {n : Nat} : n < n + 1 + 1 := by omega
theorem two_blocks {w w1 : World} {A B : Array Value} (hb : Below ((w.alloc (.cells A 25)).alloc (.cells B 25)).heap.size ((w.alloc (.cells A 25)).alloc (.cells B 25)) w1) :
    Below w.heap.size w w1 ∧ Blk w1 w.heap.size 25 A ∧ Blk w1 (w.heap.size + 1) 25 B :=
  ⟨bl_trans (((Below.refl w.heap.size w).alloc (Nat.le_refl _) _).alloc (by simp) _) hb (by simp; omega), ((Blk.new w 25 A).alloc _).below hb (by simp; omega), (Blk.new2 w _ 25 B).below hb (by simp)⟩
theorem one_block {w w1 : World} {A : Array Value} (hb : Below (w.alloc (.cells A 25)).heap.size (w.alloc (.cells A 25)) w1) :
    Below w.heap.size w w1 ∧ Blk w1 w.heap.size 25 A :=
  ⟨bl_trans ((Below.refl w.heap.size w).alloc (Nat.le_refl _) _) hb (by simp), (Blk.new w 25 A).below hb (by simp)⟩
theorem _root_.Go.Lg.Blk.page {w : World} {g : Nat} {x0 x1 x2 x3 x4 x5 : Value} (h : Blk w g 25 #[x0, x1, x2, x3, x4, x5]) (y0 y1 y2 y3 y4 y5 : Value) :
    Blk ((((((w.setCell ⟨g, 0, none⟩ y0).setCell ⟨g, 1, none⟩ y1).setCell ⟨g, 2, none⟩ y2).setCell ⟨g, 3, none⟩ y3).setCell ⟨g, 4, none⟩ y4).setCell ⟨g, 5, none⟩ y5) g 25 #[y0, y1, y2, y3, y4, y5] :=
  (((((h.set_ 0 y0).set_ 1 y1).set_ 2 y2).set_ 3 y3).set_ 4 y4).set_ 5 y5
theorem _root_.Go.Lg.Blk.page_far {w : World} {g b : Nat} {cs : Array Value} (h : Blk w g 25 cs) (hg : g ≠ b) (y0 y1 y2 y3 y4 y5 : Value) :
    Blk ((((((w.setCell ⟨b, 0, none⟩ y0).setCell ⟨b, 1, none⟩ y1).setCell ⟨b, 2, none⟩ y2).setCell ⟨b, 3, none⟩ y3).setCell ⟨b, 4, none⟩ y4).setCell ⟨b, 5, none⟩ y5) g 25 cs :=
  (((((h.far (p := ⟨b, 0, none⟩) hg y0).far (p := ⟨b, 1, none⟩) hg y1).far (p := ⟨b, 2, none⟩) hg y2).far (p := ⟨b, 3, none⟩) hg y3).far (p := ⟨b, 4, none⟩) hg y4).far (p := ⟨b, 5, none⟩) hg y5
theorem below_page {w0 w : World} {B b : Nat} (h : Below B w0 w) (hb : B ≤ b) (y0 y1 y2 y3 y4 y5 : Value) :
    Below B w0 ((((((w.setCell ⟨b, 0, none⟩ y0).setCell ⟨b, 1, none⟩ y1).setCell ⟨b, 2, none⟩ y2).setCell ⟨b, 3, none⟩ y3).setCell ⟨b, 4, none⟩ y4).setCell ⟨b, 5, none⟩ y5) :=
  (((((h.setCell (p := ⟨b, 0, none⟩) hb y0).setCell (p := ⟨b, 1, none⟩) hb y1).setCell (p := ⟨b, 2, none⟩) hb y2).setCell (p := ⟨b, 3, none⟩) hb y3).setCell (p := ⟨b, 4, none⟩) hb y4).setCell (p := ⟨b, 5, none⟩) hb y5
theorem pret2 {r : Pg × Int} {q : Pg} {k : Int} (h : r = (q, k)) : Ending.returned (.tuple #[q.v, .int .i64 k]) = .returned (.tuple #[r.1.v, .int .i64 r.2]) := by rw [h]
theorem pret3 {r : Pg × Bool × Int} {q : Pg} {b : Bool} {k : Int} (h : r = (q, b, k)) : Ending.returned (.tuple #[q.v, .bool b, .int .i64 k]) = .returned (.tuple #[r.1.v, .bool r.2.1, .int .i64 r.2.2]) := by rw [h]

end Go.Proofs.Ytcfopaphpjmopaa
