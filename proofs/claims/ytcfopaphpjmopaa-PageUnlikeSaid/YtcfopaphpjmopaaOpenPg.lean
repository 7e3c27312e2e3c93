/- A page that came in. -/
import Derived.Test.YtcfopaphpjmopaaOpen
import Derived.Test.YtcfopaphpjmopaaPg
import Derived.Deep.Fields
namespace Go.Proofs.Ytcfopaphpjmopaa
open Go.ChangeShapes Go.WideShapes Go.ChangeAt Go.RowKit Go.Lg

theorem array6 {α : Type} {cs : Array α} (h : cs.size = 6) : ∃ c0 c1 c2 c3 c4 c5, cs = #[c0, c1, c2, c3, c4, c5] := by
  obtain ⟨l⟩ := cs
  match l, h with
  | [c0, c1, c2, c3, c4, c5], _ => exact ⟨c0, c1, c2, c3, c4, c5, rfl⟩

structure Pg.wf (p : Pg) : Prop where
  ep : (Lit.int .i64 p.ep).wf = true
  ro : (Lit.int .u8 p.ro).wf = true
  ac : (Lit.int .i64 p.ac).wf = true
  ph : (Lit.int .u8 p.ph).wf = true
  fo : (Lit.int .i64 p.fo).wf = true
  ba : (Lit.int .i64 p.ba).wf = true

theorem open_page {H : Type} {enc : TypeId × Value → H} {w : World} {base : Nat} {spare : Nat → Bool} {held : Bool} {r : Reach} {b0 : Nat} {v : Value} {d : DataW H} {ps : List MemPlace}
    (hv : Value.okWide Try.prog w r b0 25 v) (h : DataW.Trod enc Try.prog w base spare held 25 v d ps) : ∃ p : Pg, v = p.v ∧ p.wf := by
  obtain ⟨cs, rfl, hsz⟩ := okWide_struct Try.underlying25 hv
  obtain ⟨c0, c1, c2, c3, c4, c5, rfl⟩ := array6 (hsz.trans (by kernel_rfl))
  obtain ⟨fuel, hf⟩ := h
  obtain ⟨xs, n, _, _, hl, hlen, hg⟩ := DataW.trod_struct Try.underlying25 hf
  match xs, hlen with
  | [y0, y1, y2, y3, y4, y5], _ =>
    have k3 : Try.prog.cellsOf 3 = 1 := by kernel_rfl
    have k22 : Try.prog.cellsOf 22 = 1 := by kernel_rfl
    have k23 : Try.prog.cellsOf 23 = 1 := by kernel_rfl
    have g0 : DataW.trod enc Try.prog w base spare held n 3 [c0] = some y0 := by
      have h := hg 0 _ rfl
      simpa [k3, k22, k23, Value.cells] using h
    have g1 : DataW.trod enc Try.prog w base spare held n 22 [c1] = some y1 := by
      have h := hg 1 _ rfl
      simpa [k3, k22, k23, Value.cells] using h
    have g2 : DataW.trod enc Try.prog w base spare held n 3 [c2] = some y2 := by
      have h := hg 2 _ rfl
      simpa [k3, k22, k23, Value.cells] using h
    have g3 : DataW.trod enc Try.prog w base spare held n 23 [c3] = some y3 := by
      have h := hg 3 _ rfl
      simpa [k3, k22, k23, Value.cells] using h
    have g4 : DataW.trod enc Try.prog w base spare held n 3 [c4] = some y4 := by
      have h := hg 4 _ rfl
      simpa [k3, k22, k23, Value.cells] using h
    have g5 : DataW.trod enc Try.prog w base spare held n 3 [c5] = some y5 := by
      have h := hg 5 _ rfl
      simpa [k3, k22, k23, Value.cells] using h
    obtain ⟨a0, h0, _, w0⟩ := DataW.trod_int Try.underlying3 g0
    obtain ⟨a1, h1, _, w1⟩ := DataW.trod_int Try.underlying22 g1
    obtain ⟨a2, h2, _, w2⟩ := DataW.trod_int Try.underlying3 g2
    obtain ⟨a3, h3, _, w3⟩ := DataW.trod_int Try.underlying23 g3
    obtain ⟨a4, h4, _, w4⟩ := DataW.trod_int Try.underlying3 g4
    obtain ⟨a5, h5, _, w5⟩ := DataW.trod_int Try.underlying3 g5
    simp only [List.cons.injEq, and_true] at h0 h1 h2 h3 h4 h5
    subst h0 h1 h2 h3 h4 h5
    exact ⟨⟨a0, a1, a2, a3, a4, a5⟩, rfl, ⟨w0, w1, w2, w3, w4, w5⟩⟩
end Go.Proofs.Ytcfopaphpjmopaa
