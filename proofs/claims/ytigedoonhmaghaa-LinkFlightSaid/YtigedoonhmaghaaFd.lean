/- Letters listed and dropped one by one: what stays. -/
import Derived.Test.YtigedoonhmaghaaFc
namespace Go.Proofs.Ytigedoonhmaghaa
open Go.RowKit Go.Lg Go.Shelf
variable {F : Nat}
set_option linter.unusedVariables false
set_option linter.unusedSimpArgs false

theorem blk_ne_ty {w : World} {g g' : Nat} {t t' : TypeId} {cs cs' : Array Value} (h : Blk w g t cs) (h' : Blk w g' t' cs') (ht : t ≠ t') : g ≠ g' := fun e => by
  subst e
  unfold Blk at h h'
  rw [h] at h'
  injection h' with h'
  injection h' with _ h'
  exact ht h'
/-- A block of another kind is written. -/
theorem LX.gbx {rf : Bool} {w w' : World} {B z R : Nat} {last : Int} {sv : Value} {ls : List Lt} {t : TypeId} {cs : Array Value} (h : LX F rf w B z last sv ls) (hg : w.grownBy w' (some R)) (hR : Blk w R t cs) (h31 : (31 : TypeId) ≠ t) (h5 : (5 : TypeId) ≠ t) (ho : oty rf ≠ t) : LX F rf w' B z last sv ls :=
  ⟨h.hB, h.blk.gb hg (fun e => blk_ne_ty h.blk hR ho (Option.some.inj e)), owned_gb h.own hg (fun g h1 h2 => owned_blk_ne h.own hR h31 g h1 (Option.some.inj h2)), h.le, fun x hx => (h.by_ x hx).keep (owned_gb (h.by_ x hx).own hg fun g h1 h2 => owned_blk_ne (h.by_ x hx).own hR h5 g h1 (Option.some.inj h2)), Nat.lt_of_lt_of_le h.hF hg.size, h.neF⟩
theorem Bb.grows {K : Nat} {w w' : World} (h : Bb w.heap.size K w w') : w.grownBy w' (some K) := ⟨h.os, h.tape, h.output, h.size, fun k hk hne => h.block k hk (fun e => hne (by rw [e]))⟩
/-- Letters listed, and a link. -/
structure Em (F B z fb D : Nat) (q : Int) (ks : List Key) (w1 wr : World) (lf : List Lt) (A : Option Addr) (c m : Nat) : Prop where
  ex : ∃ sv ls, LX F false wr B z q sv ls ∧ ls.map Lt.k = ks ∧ (∀ g, sv.ownBlock = some g → (Value.slice A m c).ownBlock ≠ some g)
  asc : Asc q ks
  len : m = lf.length
  le : m ≤ 512
  one : ∀ x ∈ lf, ∃ A c, x.v = .slice A x.b.length c
  box : Boxed wr fb 37 (.slice A m c)
  own : wr.ownsRow B 31 3 (.slice A m c) m (ltc lf)
  low : Below B w1 wr
  d : wr.heap[D]? = some (.deferred (some []))
  hb : B ≤ fb
section
variable {B z fb D : Nat} {q : Int} {ks : List Key} {w1 wr w' : World} {lf : List Lt} {A : Option Addr} {c m : Nat}
theorem Em.leB (h : Em F B z fb D q ks w1 wr lf A c m) : B ≤ wr.heap.size := by
  obtain ⟨sv, ls, h1, _⟩ := h.ex
  exact h1.leB
theorem Em.later (h : Em F B z fb D q ks w1 wr lf A c m) (hb : Below wr.heap.size wr w') : Em F B z fb D q ks w1 w' lf A c m := by
  obtain ⟨sv, ls, h1, h2, h3⟩ := h.ex
  exact ⟨⟨sv, ls, h1.later hb, h2, h3⟩, h.asc, h.len, h.le, h.one, (show Blk wr fb 37 #[_] from h.box).later hb, owned_later h.own hb, h.low.trans (hb.mono h.leB), (hb.block D (Array.getElem?_eq_some_iff.1 h.d).1).trans h.d, h.hb⟩
/-- The i-th is dropped from the link. -/
theorem Em.drop (h : Em F B z fb D q (lf.map Lt.k) w1 wr lf A c m) {i : Nat} {x : Lt} (hx : lf[i]? = some x) :
    Calls Try.prog 13 #[P z, .int .i64 x.n] wr fun e w' => e = .returned (.int .i64 0) ∧ Em F B z fb D q ((lf.map Lt.k).eraseIdx i) w1 w' lf A c m := by
  obtain ⟨sv, ls, h1, h2, h3⟩ := h.ex
  have hk : (lf.map Lt.k)[i]? = some x.k := by rw [List.getElem?_map, hx]; rfl
  obtain ⟨d1, d2⟩ := drop_asc h.asc hk
  have d1' : dE x.n (lf.map Lt.k) = 0 := d1
  have d2' : dK x.n (lf.map Lt.k) = (lf.map Lt.k).eraseIdx i := d2
  have hd := drop13 h1 x.n
  rw [h2] at hd
  refine hd.mono fun e w' k => ?_
  obtain ⟨he, hl⟩ := k
  rw [d1'] at he
  rw [d2'] at hl
  obtain ⟨sv', ls', e0, e1, e2, e3⟩ := hl
  have hfz : ∀ g, (Value.slice A m c).ownBlock = some g → g ≠ z := owned_blk_ne h.own h1.blk (oty_ne false)
  have hlt := (Array.getElem?_eq_some_iff.1 h.d).1
  refine ⟨he, ⟨sv', ls', e1, e0, fun g hg hg2 => ?_⟩, asc_erase h.asc i, h.len, h.le, h.one, ?_, ?_, h.low.trans (h1.low e2), ?_, h.hb⟩
  · rcases e3 g hg with h4 | h4
    · exact h3 g h4 hg2
    · have := (h.own.lt g hg2).2; omega
  · exact blk_two (show Blk wr fb 37 #[_] from h.box) e2 (blk_ne_ty (show Blk wr fb 37 #[_] from h.box) h1.blk (by decide)) (fun b hb => owned_blk_ne h1.own (show Blk wr fb 37 #[_] from h.box) (by decide) b hb)
  · exact owned_two h.own e2 (fun g hg => ⟨hfz g hg, fun e => h3 g e hg⟩)
  · refine (e2.block D hlt (fun e => ?_) (fun e => ?_)).trans h.d
    · have h9 := h1.blk
      unfold Blk at h9
      rw [← e, h.d] at h9
      cases h9
    · rcases h1.own.2 with ⟨h9, _⟩ | ⟨g, cap, cur, h9, _, h4, _⟩
      · rw [h9] at e
        simp [Value.ownBlock] at e
      · rw [h9] at e
        simp [Value.ownBlock] at e
        rw [← e, h.d] at h4
        cases h4
/-- The list is made anew, without the i-th. -/
theorem Em.anew {i : Nat} (h : Em F B z fb D q ((lf.map Lt.k).eraseIdx i) w1 wr lf A c m) {W : World} {A' : Option Addr} {c' m' : Nat} (hb : Below wr.heap.size wr W) (hm : m' = (lf.eraseIdx i).length) (ho : W.ownsRow wr.heap.size 31 3 (.slice A' m' c') m' (ltc (lf.eraseIdx i))) :
    Em F B z fb D q ((lf.eraseIdx i).map Lt.k) w1 (W.setCell ⟨fb, 0, none⟩ (.slice A' m' c')) (lf.eraseIdx i) A' c' m' := by
  have h' := h.later hb
  obtain ⟨sv, ls, h1, h2, h3⟩ := h.ex
  have kf : Blk W fb 37 #[.slice A m c] := h'.box
  have hg := gb_setCell (p := ⟨fb, 0, none⟩) (.slice A' m' c') (World.grownBy.refl W (some fb))
  have hke : (lf.map Lt.k).eraseIdx i = (lf.eraseIdx i).map Lt.k := (map_eraseIdx Lt.k lf i).symm
  refine ⟨⟨sv, ls, (h1.later hb).gbx hg kf (by decide) (by decide) (by decide), by rw [h2, hke], fun g hg9 hg2 => ?_⟩, by rw [← hke]; exact h.asc, hm, ?_, fun x hx => h.one x ((List.eraseIdx_sublist lf i).subset hx), h'.box.set _, ?_, (h'.low).setCell (p := ⟨fb, 0, none⟩) h.hb _, ?_, h.hb⟩
  · have := (h1.own.lt g hg9).2
    have := (ho.lt g hg2).1
    omega
  · have := h.le
    have := h.len
    have := (List.eraseIdx_sublist lf i).length_le
    omega
  · exact owned_less (owned_gb ho hg fun g h4 h5 => owned_blk_ne ho kf (by decide) g h4 (Option.some.inj h5)) h.leB
  · exact (KeepsOthers.setCell W ⟨fb, 0, none⟩ (.slice A' m' c')).same D _ h'.d rfl
theorem Em.none (h : Em F B z fb D q (lf.map Lt.k) w1 wr lf A c 0) : Calls Try.prog 21 #[P z] wr fun e w' => (∃ A c, e = .returned (.slice A 0 c)) ∧ Em F B z fb D q (lf.map Lt.k) w1 w' lf A c 0 := by
  obtain ⟨sv, ls, h1, h2, h3⟩ := h.ex
  have hl0 : lf = [] := List.eq_nil_of_length_eq_zero h.len.symm
  have hls : ls = [] := by
    rw [hl0] at h2
    simpa using h2
  refine (flight21 h1).mono fun e w' k => ?_
  obtain ⟨v, ls', he, ho, hf, hb⟩ := k
  have h0 : ls'.length = 0 := by rw [hf.len, hls]; rfl
  rw [h0] at ho
  obtain ⟨A', c', e9, _, _⟩ := owned_slice ho
  exact ⟨⟨A', c', by rw [he, e9]⟩, h.later hb⟩
end
end Go.Proofs.Ytigedoonhmaghaa
