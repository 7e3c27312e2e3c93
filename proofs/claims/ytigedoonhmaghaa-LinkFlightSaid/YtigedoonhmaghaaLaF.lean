/- Letters and links in memory: the words; what a call on a link leaves. -/
import Derived.Test.YtigedoonhmaghaaApart
namespace Go.Proofs.Ytigedoonhmaghaa
open Go.RowKit Go.Lg
variable {F : Nat}
set_option linter.unusedVariables false
set_option linter.unusedSimpArgs false

/-- A letter in memory: its number, where it goes, its bytes' slice, its bytes. -/
structure Lt where
  n : Int
  to : Int
  v : Value
  b : List UInt8
/-- What a letter tells. -/
abbrev Key := Int × Int × List UInt8
def Lt.k (x : Lt) : Key := (x.n, x.to, x.b)
def Lt.cs (x : Lt) : List Value := [.int .i64 x.n, .int .i64 x.to, x.v]
def ltc (l : List Lt) : List Value := l.flatMap Lt.cs
theorem ltc_cons (x : Lt) (l : List Lt) : ltc (x :: l) = x.cs ++ ltc l := rfl
theorem ltc_app (a b : List Lt) : ltc (a ++ b) = ltc a ++ ltc b := by simp [ltc]
theorem ltc_length : ∀ l : List Lt, (ltc l).length = l.length * 3
  | [] => rfl
  | x :: l => by rw [ltc_cons, List.length_append, ltc_length l]; simp [Lt.cs]; omega
theorem ltc_get : ∀ (l : List Lt) (j : Nat) (x : Lt), l[j]? = some x → (ltc l)[j * 3]? = some (.int .i64 x.n) ∧ (ltc l)[j * 3 + 1]? = some (.int .i64 x.to) ∧ (ltc l)[j * 3 + 2]? = some x.v
  | [], j, x, h => by cases h
  | a :: l, 0, x, h => by
    simp at h
    subst h
    exact ⟨rfl, rfl, rfl⟩
  | a :: l, j + 1, x, h => by
    have h1 := ltc_get l j x (by simpa using h)
    have e : ltc (a :: l) = [.int .i64 a.n, .int .i64 a.to, a.v] ++ ltc l := rfl
    have s : ∀ i, (ltc (a :: l))[(j + 1) * 3 + i]? = (ltc l)[j * 3 + i]? := fun i => by
      rw [e, List.getElem?_append_right (by simp; omega)]
      congr 1
      simp
      omega
    exact ⟨(s 0).trans h1.1, (s 1).trans h1.2.1, (s 2).trans h1.2.2⟩
theorem ltc_take (l : List Lt) (k : Nat) : (ltc l).take (k * 3) = ltc (l.take k) := by
  rcases Nat.le_total k l.length with h | h
  · conv => lhs; rw [← List.take_append_drop k l, ltc_app]
    rw [List.take_append_of_le_length (by rw [ltc_length, List.length_take]; omega), List.take_of_length_le (by rw [ltc_length, List.length_take]; omega)]
  · rw [List.take_of_length_le h, List.take_of_length_le (by rw [ltc_length]; omega)]
theorem ltc_drop (l : List Lt) (k : Nat) : (ltc l).drop (k * 3) = ltc (l.drop k) := by
  rcases Nat.le_total k l.length with h | h
  · conv => lhs; rw [← List.take_append_drop k l, ltc_app]
    rw [List.drop_append_of_le_length (by rw [ltc_length, List.length_take]; omega), List.drop_of_length_le (by rw [ltc_length, List.length_take]; omega)]
    rfl
  · rw [List.drop_of_length_le h, List.drop_of_length_le (by rw [ltc_length]; omega)]
    rfl

theorem Try.info31 : (Try.prog.info? 31).map (fun i => (i.zero, i.size, i.bytes)) = some (some (.agg #[.int .i64 0, .int .i64 0, .slice none 0 0]), 3, 40) := by kernel_rfl
theorem T37 : SlT Try.prog 37 31 3 40 := SlT.mk' _ Try.underlying37 Try.info31 rfl (by decide) (by decide)

/-- A letter of a link's own: its bytes in memory of the program's own; at most 40; to 0 or 1. -/
structure Own1 (B : Nat) (w : World) (x : Lt) : Prop where
  own : w.ownsRow B 5 1 x.v x.b.length (bts x.b)
  le : x.b.length ≤ 40
  to : x.to = 0 ∨ x.to = 1
theorem Own1.one {B : Nat} {w : World} {x : Lt} (h : Own1 B w x) : x.v.oneCell' = true := by
  obtain ⟨A, c, e, _⟩ := owned_slice h.own
  rw [e]; rfl
theorem ltc_one {B : Nat} {w : World} {l : List Lt} (h : ∀ x ∈ l, Own1 B w x) : ∀ u ∈ ltc l, u.oneCell' = true := by
  intro u hu
  obtain ⟨x, hx, hu⟩ := List.mem_flatMap.1 hu
  simp only [Lt.cs, List.mem_cons, List.not_mem_nil, or_false] at hu
  rcases hu with rfl | rfl | rfl
  · rfl
  · rfl
  · exact (h x hx).one

/-! ### What a call on a link may turn: the link's own block, its letters' block -/
structure Two (z : Nat) (r : Option Nat) (w w' : World) : Prop where
  os : w'.os = w.os
  tape : w'.tape = w.tape
  output : w'.output = w.output
  size : w.heap.size ≤ w'.heap.size
  block : ∀ k, k < w.heap.size → k ≠ z → some k ≠ r → w'.heap[k]? = w.heap[k]?
theorem Two.of_below {z : Nat} {r : Option Nat} {w w' : World} (h : Below w.heap.size w w') : Two z r w w' := ⟨h.os, h.tape, h.output, h.size, fun k hk _ _ => h.block k hk⟩
theorem Two.of_z {z : Nat} {r : Option Nat} {w w' : World} (h : w.grownBy w' (some z)) : Two z r w w' := ⟨h.os, h.tape, h.output, h.size, fun k hk hz _ => h.block k hk (fun e => hz (Option.some.inj e))⟩
theorem Two.of_r {z : Nat} {r : Option Nat} {w w' : World} (h : w.grownBy w' r) : Two z r w w' := ⟨h.os, h.tape, h.output, h.size, fun k hk _ hr => h.block k hk hr⟩
theorem Two.trans {z : Nat} {r r' : Option Nat} {a b c : World} (h : Two z r a b) (k : Two z r' b c) (hr : ∀ g, r' = some g → r = some g ∨ a.heap.size ≤ g) : Two z r a c :=
  ⟨k.os.trans h.os, k.tape.trans h.tape, k.output.trans h.output, Nat.le_trans h.size k.size, fun i hi hz hn => (k.block i (Nat.lt_of_lt_of_le hi h.size) hz (fun e => by
    rcases hr i e.symm with h1 | h1
    · exact hn h1.symm
    · omega)).trans (h.block i hi hz hn)⟩
theorem Two.below {z B : Nat} {r : Option Nat} {w w' : World} (h : Two z r w w') (hB : B ≤ w.heap.size) (hz : B ≤ z) (hr : ∀ g, r = some g → B ≤ g) : Below B w w' :=
  ⟨h.os, h.tape, h.output, h.size, fun k hk => h.block k (by omega) (by omega) (fun e => by have := hr k e.symm; omega)⟩
theorem blk_two {z g : Nat} {t : TypeId} {cs : Array Value} {r : Option Nat} {w w' : World} (h : Blk w g t cs) (k : Two z r w w') (hz : g ≠ z) (hr : ∀ b, r = some b → b ≠ g) : Blk w' g t cs :=
  (k.block g h.lt hz (fun e => hr g e.symm rfl)).trans h
theorem owned_two {z : Nat} {r : Option Nat} {w w' : World} {base : Nat} {e : TypeId} {sz n : Nat} {v : Value} {xs : List Value} (h : w.ownsRow base e sz v n xs) (k : Two z r w w') (hne : ∀ g, v.ownBlock = some g → g ≠ z ∧ r ≠ some g) : w'.ownsRow base e sz v n xs := by
  refine ⟨h.1, ?_⟩
  rcases h.2 with h2 | ⟨g, cap, cur, rfl, h3, h4, h5⟩
  · exact .inl h2
  · obtain ⟨q1, q2⟩ := hne g rfl
    exact .inr ⟨g, cap, cur, rfl, h3, (k.block g (Array.getElem?_eq_some_iff.1 h4).1 q1 (fun e => q2 e.symm)).trans h4, h5⟩

/-! ### A link: of the program (false), of the document (true) -/
def oty : Bool → TypeId | true => 63 | false => 55
def ocs : Bool → Int → Value → Array Value | true, l, sv => #[.bool true, sv, .int .i64 l] | false, l, sv => #[.bool true, .int .i64 l, sv]
def ixL : Bool → Nat | true => 1 | false => 2
def ixN : Bool → Nat | true => 2 | false => 1
theorem ocs_setL (rf : Bool) (l : Int) (sv sv' : Value) : (ocs rf l sv).setIfInBounds (ixL rf) sv' = ocs rf l sv' := by cases rf <;> rfl
theorem ocs_setN (rf : Bool) (l l' : Int) (sv : Value) : (ocs rf l sv).setIfInBounds (ixN rf) (.int .i64 l') = ocs rf l' sv := by cases rf <;> rfl
theorem oty_ne (rf : Bool) : (31 : TypeId) ≠ oty rf := by cases rf <;> decide
theorem oty_ne5 (rf : Bool) : (5 : TypeId) ≠ oty rf := by cases rf <;> decide
structure LX (F : Nat) (rf : Bool) (w : World) (B z : Nat) (last : Int) (sv : Value) (ls : List Lt) : Prop where
  hB : B ≤ z
  blk : Blk w z (oty rf) (ocs rf last sv)
  own : w.ownsRow B 31 3 sv ls.length (ltc ls)
  le : ls.length ≤ 512
  by_ : ∀ x ∈ ls, Own1 B w x
  hF : F < w.heap.size
  neF : ∀ x ∈ ls, x.v.ownBlock ≠ some F
section
variable {rf : Bool} {w w' : World} {B z : Nat} {last : Int} {sv : Value} {ls : List Lt}
theorem LX.ne (h : LX F rf w B z last sv ls) : ∀ g, sv.ownBlock = some g → g ≠ z := owned_blk_ne h.own h.blk (oty_ne rf)
theorem Own1.keep {B' : Nat} {x : Lt} (h : Own1 B' w x) (k : w'.ownsRow B' 5 1 x.v x.b.length (bts x.b)) : Own1 B' w' x := ⟨k, h.le, h.to⟩
theorem Own1.later {B' : Nat} {x : Lt} (h : Own1 B' w x) (hb : Below w.heap.size w w') : Own1 B' w' x := h.keep (owned_later h.own hb)
theorem LX.later (h : LX F rf w B z last sv ls) (hb : Below w.heap.size w w') : LX F rf w' B z last sv ls := ⟨h.hB, h.blk.later hb, owned_later h.own hb, h.le, fun x hx => (h.by_ x hx).later hb, Nat.lt_of_lt_of_le h.hF hb.size, h.neF⟩
/-- Bytes stay through a call on the link. -/
theorem LX.bytes (h : LX F rf w B z last sv ls) {b n : Nat} {v : Value} {xs : List Value} (ho : w.ownsRow b 5 1 v n xs) (k : Two z sv.ownBlock w w') : w'.ownsRow b 5 1 v n xs :=
  owned_two ho k fun g hg => ⟨owned_blk_ne ho h.blk (oty_ne5 rf) g hg, fun e => ne_by_type ho h.own (by decide) g hg e⟩
theorem LX.leB (h : LX F rf w B z last sv ls) : B ≤ w.heap.size := by have := h.hB; have := h.blk.lt; omega
/-- What a call leaves of the link. -/
def Left (F : Nat) (rf : Bool) (B z : Nat) (sv : Value) (last' : Int) (ks' : List Key) (w w' : World) : Prop :=
  ∃ sv' ls', ls'.map Lt.k = ks' ∧ LX F rf w' B z last' sv' ls' ∧ Two z sv.ownBlock w w' ∧ (∀ g, sv'.ownBlock = some g → sv.ownBlock = some g ∨ w.heap.size ≤ g)
theorem Left.from_ {last' : Int} {ks' : List Key} {W : World} (hb : Below w.heap.size w W) (h : Left F rf B z sv last' ks' W w') : Left F rf B z sv last' ks' w w' := by
  obtain ⟨sv', ls', h0, h1, h2, h3⟩ := h
  refine ⟨sv', ls', h0, h1, (Two.of_below hb).trans h2 (fun g hg => .inl hg), fun g hg => ?_⟩
  rcases h3 g hg with h4 | h4
  · exact .inl h4
  · exact .inr (Nat.le_trans hb.size h4)
theorem Left.same (h : LX F rf w B z last sv ls) (hb : Below w.heap.size w w') : Left F rf B z sv last (ls.map Lt.k) w w' := ⟨sv, ls, rfl, h.later hb, Two.of_below hb, fun g hg => .inl hg⟩
theorem Left.behind {last' : Int} {ks' : List Key} {W : World} (h : Left F rf B z sv last' ks' w W) (hb : Below W.heap.size W w') : Left F rf B z sv last' ks' w w' := by
  obtain ⟨sv', ls', h0, h1, h2, h3⟩ := h
  exact ⟨sv', ls', h0, h1.later hb, h2.trans (r' := none) (Two.of_below hb) (fun g hg => by cases hg), h3⟩
/-- Behind the store of the last number. -/
theorem LX.setN (h : LX F rf w B z last sv ls) (last' : Int) : LX F rf (w.setCell ⟨z, ixN rf, none⟩ (.int .i64 last')) B z last' sv ls ∧ w.grownBy (w.setCell ⟨z, ixN rf, none⟩ (.int .i64 last')) (some z) := by
  have hgb := gb_setCell (p := ⟨z, ixN rf, none⟩) (.int .i64 last') (World.grownBy.refl w (some z))
  refine ⟨⟨h.hB, ?_, owned_gb h.own hgb (fun g hg he => h.ne g hg (Option.some.inj he)), h.le, fun x hx => ?_, Nat.lt_of_lt_of_le h.hF hgb.size, h.neF⟩, hgb⟩
  · have := h.blk.set_ (ixN rf) (.int .i64 last')
    rwa [ocs_setN] at this
  · exact (h.by_ x hx).keep (h.bytes (h.by_ x hx).own (Two.of_z hgb))
/-- Behind an append and the store of its slice. -/
theorem left_append {X w2 : World} {x : Lt} {A2 : Option Addr} {c2 : Nat} (h : LX F rf w B z last sv ls) (h8 : ls.length < 512) (hb : Below w.heap.size w X) (hx : Own1 B X x) (hxF : x.v.ownBlock ≠ some F)
    (hv2 : w2.ownsRow B 31 3 (.slice A2 (ls.length + 1) c2) (ls.length + 1) (ltc ls ++ x.cs)) (hg : X.grownBy w2 sv.ownBlock)
    (hat : ∀ g, (Value.slice A2 (ls.length + 1) c2).ownBlock = some g → sv.ownBlock = some g ∨ w.heap.size ≤ g) :
    Left F rf B z sv last (ls.map Lt.k ++ [x.k]) w (w2.setCell ⟨z, ixL rf, none⟩ (.slice A2 (ls.length + 1) c2)) := by
  have hX := h.later hb
  have hz2 : Blk w2 z (oty rf) (ocs rf last sv) := hX.blk.gb hg (fun e => h.ne z e.symm rfl)
  have hne : ∀ g, (Value.slice A2 (ls.length + 1) c2).ownBlock = some g → g ≠ z := owned_blk_ne hv2 hz2 (oty_ne rf)
  have hgb := gb_setCell (p := ⟨z, ixL rf, none⟩) (.slice A2 (ls.length + 1) c2) (World.grownBy.refl w2 (some z))
  have hT : Two z sv.ownBlock X (w2.setCell ⟨z, ixL rf, none⟩ (.slice A2 (ls.length + 1) c2)) := (Two.of_r hg).trans (r' := none) (Two.of_z hgb) (fun g hg => by cases hg)
  refine ⟨.slice A2 (ls.length + 1) c2, ls ++ [x], by simp, ⟨h.hB, ?_, ?_, by simp; omega, ?_, Nat.lt_of_lt_of_le h.hF (Nat.le_trans hb.size hT.size), fun y hy => ?_⟩, (Two.of_below hb).trans hT (fun g hg => .inl hg), hat⟩
  · have := hz2.set_ (ixL rf) (.slice A2 (ls.length + 1) c2)
    rwa [ocs_setL] at this
  · rw [List.length_append, List.length_singleton, ltc_app]
    have e : ltc [x] = x.cs := by simp [ltc]
    rw [e]
    exact owned_gb hv2 hgb (fun g hg he => hne g hg (Option.some.inj he))
  · intro y hy
    rw [List.mem_append, List.mem_singleton] at hy
    rcases hy with hy | rfl
    · exact (hX.by_ y hy).keep (hX.bytes (hX.by_ y hy).own hT)
    · exact hx.keep (hX.bytes hx.own hT)
  · rw [List.mem_append, List.mem_singleton] at hy
    rcases hy with hy | rfl
    · exact h.neF y hy
    · exact hxF
/-- A new slice stored, of letters that were there. -/
theorem put_lx {X : World} {sv' : Value} {ls' : List Lt} (h : LX F rf w B z last sv ls) (hT : Two z sv.ownBlock w X) (hz : Blk X z (oty rf) (ocs rf last sv)) (h' : X.ownsRow B 31 3 sv' ls'.length (ltc ls')) (hle : ls'.length ≤ 512) (hm : ∀ x ∈ ls', x ∈ ls) :
    LX F rf (X.setCell ⟨z, ixL rf, none⟩ sv') B z last sv' ls' ∧ Two z sv.ownBlock w (X.setCell ⟨z, ixL rf, none⟩ sv') := by
  have hne : ∀ g, sv'.ownBlock = some g → g ≠ z := owned_blk_ne h' hz (oty_ne rf)
  have hgb := gb_setCell (p := ⟨z, ixL rf, none⟩) sv' (World.grownBy.refl X (some z))
  have hT2 : Two z sv.ownBlock w (X.setCell ⟨z, ixL rf, none⟩ sv') := hT.trans (r' := none) (Two.of_z hgb) (fun g hg => by cases hg)
  refine ⟨⟨h.hB, ?_, owned_gb h' hgb (fun g hg he => hne g hg (Option.some.inj he)), hle, fun x hx => ?_, Nat.lt_of_lt_of_le h.hF hT2.size, fun x hx => h.neF x (hm x hx)⟩, hT2⟩
  · have := hz.set_ (ixL rf) sv'
    rwa [ocs_setL] at this
  · exact (h.by_ x (hm x hx)).keep (h.bytes (h.by_ x (hm x hx)).own hT2)
theorem left_put {X : World} {sv' : Value} {ls' : List Lt} (h : LX F rf w B z last sv ls) (hT : Two z sv.ownBlock w X) (hz : Blk X z (oty rf) (ocs rf last sv)) (h' : X.ownsRow B 31 3 sv' ls'.length (ltc ls')) (hle : ls'.length ≤ 512) (hm : ∀ x ∈ ls', x ∈ ls)
    (hat : ∀ g, sv'.ownBlock = some g → sv.ownBlock = some g ∨ w.heap.size ≤ g) : Left F rf B z sv last (ls'.map Lt.k) w (X.setCell ⟨z, ixL rf, none⟩ sv') :=
  ⟨sv', ls', rfl, (put_lx h hT hz h' hle hm).1, (put_lx h hT hz h' hle hm).2, hat⟩
/-- A block of letters that is not the link's is written. -/
theorem LX.other {R : Nat} {cs : Array Value} (h : LX F rf w B z last sv ls) (hg : w.grownBy w' (some R)) (hR : Blk w R 31 cs) (hsv : ∀ g, sv.ownBlock = some g → g ≠ R) : LX F rf w' B z last sv ls := by
  have hz : R ≠ z := fun e => by
    have h1 := h.blk
    unfold Blk at hR h1
    rw [← e, hR] at h1
    injection h1 with h1
    injection h1 with _ h1
    exact oty_ne rf h1
  refine ⟨h.hB, h.blk.gb hg (fun e => hz (Option.some.inj e).symm), owned_gb h.own hg (fun g h1 h2 => hsv g h1 (Option.some.inj h2)), h.le, fun x hx => (h.by_ x hx).keep (owned_gb (h.by_ x hx).own hg fun g h1 h2 => owned_blk_ne (h.by_ x hx).own hR (by decide) g h1 (Option.some.inj h2)), Nat.lt_of_lt_of_le h.hF hg.size, h.neF⟩
theorem Left.two {last' : Int} {ks' : List Key} (h : Left F rf B z sv last' ks' w w') : Two z sv.ownBlock w w' := by
  obtain ⟨_, _, _, _, h2, _⟩ := h
  exact h2
theorem Left.trans {last' : Int} {ks' : List Key} {sv1 : Value} {X : World} (h : Two z sv.ownBlock w X) (hat : ∀ g, sv1.ownBlock = some g → sv.ownBlock = some g ∨ w.heap.size ≤ g) (k : Left F rf B z sv1 last' ks' X w') : Left F rf B z sv last' ks' w w' := by
  obtain ⟨sv', ls', h0, h1, h2, h3⟩ := k
  refine ⟨sv', ls', h0, h1, h.trans h2 hat, fun g hg => ?_⟩
  rcases h3 g hg with h4 | h4
  · exact hat g h4
  · exact .inr (Nat.le_trans h.size h4)
end

abbrev P (z : Nat) : Value := .pointer (some ⟨z, 0, none⟩)
/-- Two numbers told. -/
def two (a b : Int) : Value := .tuple #[.int .i64 a, .int .i64 b]
def Send (F : Nat) (rf : Bool) (B z : Nat) (sv : Value) (r e : Int) (last' : Int) (ks' : List Key) (w : World) (en : Ending) (w' : World) : Prop := en = .returned (two r e) ∧ Left F rf B z sv last' ks' w w'
/-- A letter told, with an error. -/
def lv (x : Lt) (e : Int) : Value := .tuple #[.agg #[.int .i64 x.n, .int .i64 x.to, x.v], .int .i64 e]
/-! ### What the calls do -/
def fx (n : Int) (ks : List Key) : Option Nat := ks.findIdx? (fun k => k.1 == n)
end Go.Proofs.Ytigedoonhmaghaa
