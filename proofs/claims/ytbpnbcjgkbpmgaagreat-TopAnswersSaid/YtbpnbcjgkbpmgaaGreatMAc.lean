/- A primary answers without waiting for the other site, as many times as its leash allows: of any acts. No condition. (part 3) -/
import Derived.Test.YtbpnbcjgkbpmgaaGreatRows
import Derived.Test.YtbpnbcjgkbpmgaaGreatProg
import Derived.Test.YtbpnbcjgkbpmgaaGreatMAa
import Derived.Test.YtbpnbcjgkbpmgaaGreatMAb
namespace Go.Proofs.YtbpnbcjgkbpmgaaGreat
open Go.RowKit Go.Lg Ds
set_option linter.unusedVariables false
set_option linter.unusedSimpArgs false
abbrev P (z : Nat) : Value := .pointer (some ⟨z, 0, none⟩)
theorem T80 : SlT Tryz.prog 80 5 1 1 := SlT.mk' (.int .u8 0) Tryz.underlying80 (by kernel_rfl) rfl (by decide) (by decide)
theorem T126 : SlT Tryz.prog 126 175 4 48 := SlT.mk' (.agg #[.int .i64 0, .int .i64 0, .slice none 0 0, .int .i64 0]) Tryz.underlying126 (by kernel_rfl) rfl (by decide) (by decide)
def tg (w : World) (tag : Nat → Nat) (i : Nat) : Nat → Nat := fun k => if k < w.heap.size then tag k else i
section
variable {w w' : World} {tag : Nat → Nat} {i j : Nat}
theorem tg_mv (h : Mod (fun k => tag k = i) w w') (hj : j ≠ i) : Mv w w' (fun k => tag k = j) (fun k => tg w tag i k = j) := fun k hk hg =>
  ⟨by simp only [tg, if_pos hk]; exact hg, h.block k hk fun hi => hj (hg.symm.trans hi)⟩
theorem tg_new {k : Nat} (h : tag k = i ∨ w.heap.size ≤ k) : tg w tag i k = i := by
  unfold tg
  split
  · rcases h with h | h
    · exact h
    · omega
  · rfl
theorem tg_old {k : Nat} (h : tag k = i) : tg w tag i k = i := tg_new (.inl h)
theorem tg_sub {F : Fp} (hF : ∀ k, tag k ≠ 0 → F k) (i : Nat) : ∀ k, tg w tag i k ≠ 0 → F k ∨ w.heap.size ≤ k := by
  intro k hk
  unfold tg at hk
  split at hk
  · exact .inl (hF k hk)
  · exact .inr (by omega)
end
structure Sp where
  wr : Bool
  file : Nat
  A : Option Addr
  n : Nat
  c : Nat
  b : Bs
  len : Nat
def Sp.p (s : Sp) : Pst := ⟨s.wr, s.file, s.b, s.len⟩
def Sp.kd (s : Sp) : Int := if s.wr then 0 else 1
abbrev Sp.cs (s : Sp) : List Value := [.int .i64 s.kd, .int .i64 s.file, .slice s.A s.n s.c, .int .i64 s.len]
abbrev Sp.v (s : Sp) : Value := .agg #[.int .i64 s.kd, .int .i64 s.file, .slice s.A s.n s.c, .int .i64 s.len]
def spc (l : List Sp) : List Value := l.flatMap Sp.cs
theorem spc_cons (x : Sp) (l : List Sp) : spc (x :: l) = x.cs ++ spc l := rfl
theorem spc_app (a b : List Sp) : spc (a ++ b) = spc a ++ spc b := by simp [spc]
theorem spc_length : ∀ l : List Sp, (spc l).length = l.length * 4
  | [] => rfl
  | x :: l => by rw [spc_cons, List.length_append, spc_length l]; simp; omega
theorem spc_get : ∀ (l : List Sp) (j : Nat) (x : Sp), l[j]? = some x → (spc l)[j * 4]? = some (.int .i64 x.kd) ∧ (spc l)[j * 4 + 1]? = some (.int .i64 x.file) ∧ (spc l)[j * 4 + 2]? = some (.slice x.A x.n x.c) ∧ (spc l)[j * 4 + 3]? = some (.int .i64 x.len)
  | [], j, x, h => by cases h
  | a :: l, 0, x, h => by
    simp at h
    subst h
    exact ⟨rfl, rfl, rfl, rfl⟩
  | a :: l, j + 1, x, h => by
    have h1 := spc_get l j x (by simpa using h)
    have s : ∀ i, (spc (a :: l))[(j + 1) * 4 + i]? = (spc l)[j * 4 + i]? := fun i => by
      rw [spc_cons, List.getElem?_append_right (by simp; omega)]
      congr 1
      simp
      omega
    exact ⟨(s 0).trans h1.1, (s 1).trans h1.2.1, (s 2).trans h1.2.2.1, (s 3).trans h1.2.2.2⟩
theorem spc_drop (l : List Sp) (k : Nat) : (spc l).drop (k * 4) = spc (l.drop k) := by
  rcases Nat.le_total k l.length with h | h
  · conv => lhs; rw [← List.take_append_drop k l, spc_app]
    rw [List.drop_append_of_le_length (by rw [spc_length, List.length_take]; omega), List.drop_of_length_le (by rw [spc_length, List.length_take]; omega)]
    rfl
  · rw [List.drop_of_length_le h, List.drop_of_length_le (by rw [spc_length]; omega)]
    rfl
abbrev dcs (d : Dsk) (st : Int) (V : Nat → Value) (pv : Value) : Array Value :=
  #[.bool true, .bool d.off, .bool d.fused, .int .i64 d.fuse, .int .i64 st, V 0, V 1, V 2, V 3, pv]
structure Dt (w : World) (tag : Nat → Nat) (z : Nat) (d : Dsk) (st : Int) (V : Nat → Value) (pv : Value) (ps : List Sp) : Prop where
  blk : BlkF w (fun k => tag k = 1) z 128 (dcs d st V pv)
  rows : ∀ f, f < 4 → Sl w (fun k => tag k = 2 + f) 5 1 (V f) (d.dur f).length (bts (d.dur f))
  prow : Sl w (fun k => tag k = 6) 175 4 pv ps.length (spc ps)
  hps : ps.map Sp.p = d.pend
  by_ : ∀ s ∈ ps, RdF w (fun k => tag k = 7) 1 s.A s.n (bts s.b) ∧ s.n ≤ s.c ∧ s.c ≤ maxLen
inductive Dk (w : World) (F : Fp) (z : Nat) (d : Dsk) : Prop
  | mk (tag : Nat → Nat) (st : Int) (V : Nat → Value) (pv : Value) (ps : List Sp) (hF : ∀ k, tag k ≠ 0 → F k) (ht : Dt w tag z d st V pv ps)
section
variable {w w' : World} {tag tag' : Nat → Nat} {z : Nat} {d : Dsk} {st : Int} {V : Nat → Value} {pv : Value} {ps : List Sp} {F G : Fp}
theorem Dt.mv (h : Dt w tag z d st V pv ps) (m : ∀ k, k < w.heap.size → tag k ≠ 0 → tag' k = tag k ∧ w'.heap[k]? = w.heap[k]?) : Dt w' tag' z d st V pv ps := by
  have mv : ∀ i, i ≠ 0 → Mv w w' (fun k => tag k = i) (fun k => tag' k = i) := fun i hi k hk hg => by
    obtain ⟨q1, q2⟩ := m k hk (by simp only at hg; omega)
    exact ⟨q1.trans hg, q2⟩
  exact ⟨h.blk.mv (mv 1 (by decide)), fun f hf => (h.rows f hf).mv (mv _ (by omega)), h.prow.mv (mv 6 (by decide)), h.hps, fun s hs => ⟨(h.by_ s hs).1.mv (mv 7 (by decide)), (h.by_ s hs).2⟩⟩
theorem Dk.mv (h : Dk w F z d) (m : Mv w w' F G) : Dk w' G z d := by
  obtain ⟨tag, st, V, pv, ps, hF, ht⟩ := h
  refine ⟨fun k => if k < w.heap.size then tag k else 0, st, V, pv, ps, fun k hk => ?_, ht.mv fun k hk hg => ⟨if_pos hk, (m k hk (hF k hg)).2⟩⟩
  split at hk
  · exact (m k (by assumption) (hF k hk)).1
  · exact absurd rfl hk
theorem Dk.lt (h : Dk w F z d) : F z ∧ z < w.heap.size := by
  obtain ⟨tag, st, V, pv, ps, hF, ht⟩ := h
  exact ⟨hF z (by rw [ht.blk.2]; decide), ht.blk.1.lt⟩
theorem Dt.part {i : Nat} (h : Dt w tag z d st V pv ps) (m : Mod (fun k => tag k = i) w w') :
    (i ≠ 1 → BlkF w' (fun k => tg w tag i k = 1) z 128 (dcs d st V pv)) ∧ (∀ f, f < 4 → 2 + f ≠ i → Sl w' (fun k => tg w tag i k = 2 + f) 5 1 (V f) (d.dur f).length (bts (d.dur f))) ∧
      (i ≠ 6 → Sl w' (fun k => tg w tag i k = 6) 175 4 pv ps.length (spc ps)) ∧ (i ≠ 7 → ∀ s ∈ ps, RdF w' (fun k => tg w tag i k = 7) 1 s.A s.n (bts s.b) ∧ s.n ≤ s.c ∧ s.c ≤ maxLen) :=
  ⟨fun hi => h.blk.mv (tg_mv m (Ne.symm hi)), fun f hf hi => (h.rows f hf).mv (tg_mv m hi), fun hi => h.prow.mv (tg_mv m (Ne.symm hi)), fun hi s hs => ⟨(h.by_ s hs).1.mv (tg_mv m (Ne.symm hi)), (h.by_ s hs).2⟩⟩
theorem Dt.bytes (h : Dt w tag z d st V pv ps) (hb : Below w.heap.size w w') : Dt w' (tg w tag 7) z d st V pv ps :=
  h.mv fun k hk _ => ⟨if_pos hk, hb.block k hk⟩
end
inductive DLeft (F : Fp) (z : Nat) (d' : Dsk) (w w' : World) : Prop
  | mk (F' : Fp) (hd : Dk w' F' z d') (hm : Mod F w w') (hs : Sub w F F')
def DDid (F : Fp) (z : Nat) (r : Int × Dsk) (w : World) (e : Ending) (w' : World) : Prop := e = .returned (.int .i64 r.1) ∧ DLeft F z r.2 w w'
end Go.Proofs.YtbpnbcjgkbpmgaaGreat
namespace Go.Proofs.YtbpnbcjgkbpmgaaGreat
open Go.RowKit Go.Lg Ds
set_option linter.unusedVariables false
set_option linter.unusedSimpArgs false
def Tidy (w : World) (tag : Nat → Nat) : Prop := ∀ k, w.heap.size ≤ k → tag k = 0
structure Turn (I : Nat → Prop) (w : World) (tag : Nat → Nat) (w' : World) (tag' : Nat → Nat) : Prop where
  md : Mod (fun k => I (tag k)) w w'
  old : ∀ k, k < w.heap.size → tag' k = tag k
  new : ∀ k, w.heap.size ≤ k → tag' k = 0 ∨ I (tag' k)
  td : Tidy w' tag'
abbrev Ow (tag : Nat → Nat) (i : Nat) : Fp := fun k => tag k = i
section
variable {w w' w2 : World} {tag tag' tag2 : Nat → Nat} {I J : Nat → Prop} {i j : Nat}
theorem Tidy.below (h : Tidy w tag) (hb : w.heap.size ≤ w'.heap.size) : Tidy w' tag := fun k hk => h k (Nat.le_trans hb hk)
theorem Turn.refl (h : Tidy w tag) : Turn I w tag w tag := ⟨Mod.refl _ _, fun _ _ => rfl, fun k hk => .inl (h k hk), h⟩
theorem Turn.below (h : Tidy w tag) (hb : Below w.heap.size w w') : Turn I w tag w' tag := ⟨Mod.of_below hb, fun _ _ => rfl, fun k hk => .inl (h k hk), h.below hb.size⟩
theorem Turn.size (h : Turn I w tag w' tag') : w.heap.size ≤ w'.heap.size := h.md.size
theorem Turn.more (h : Turn I w tag w' tag') (hI : ∀ i, I i → J i) : Turn J w tag w' tag' := ⟨h.md.more fun _ hk => hI _ hk, h.old, fun k hk => (h.new k hk).imp id (hI _), h.td⟩
theorem Turn.trans (h : Turn I w tag w' tag') (k : Turn I w' tag' w2 tag2) : Turn I w tag w2 tag2 := by
  refine ⟨h.md.trans k.md fun i hi => ?_, fun i hi => ?_, fun i hi => ?_, k.td⟩
  · rcases Nat.lt_or_ge i w.heap.size with hl | hl
    · exact .inl (by show I (tag i); rw [← h.old i hl]; exact hi)
    · exact .inr hl
  · rw [k.old i (Nat.lt_of_lt_of_le hi h.size), h.old i hi]
  · rcases Nat.lt_or_ge i w'.heap.size with hl | hl
    · rw [k.old i hl]; exact h.new i hi
    · exact k.new i hl
theorem Turn.keep (h : Turn I w tag w' tag') {k : Nat} (hk : k < w.heap.size) (hn : ¬I (tag k)) : w'.heap[k]? = w.heap[k]? := h.md.block k hk hn
theorem Turn.mv (h : Turn I w tag w' tag') (hj : ¬I j) : Mv w w' (Ow tag j) (Ow tag' j) := fun k hk hg =>
  ⟨(h.old k hk).trans hg, h.keep hk (by have : tag k = j := hg; rw [this]; exact hj)⟩
theorem Turn.blk (h : Turn I w tag w' tag') {g : Nat} {t : TypeId} {cs : Array Value} (hb : Blk w g t cs) (hn : ¬I (tag g)) : Blk w' g t cs := (h.keep hb.lt hn).trans hb
noncomputable def tgF (w w' : World) (tag : Nat → Nat) (i : Nat) (F' : Fp) : Nat → Nat := by
  classical exact fun k => if k < w.heap.size then tag k else if F' k ∧ k < w'.heap.size then i else 0
theorem turn_of (hT : Tidy w tag) {F' : Fp} (hm : Mod (Ow tag i) w w') (hs : Sub w (Ow tag i) F') (hi : I i) : Turn I w tag w' (tgF w w' tag i F') := by
  refine ⟨hm.more fun k hk => by have : tag k = i := hk; rw [this]; exact hi, fun k hk => ?_, fun k hk => ?_, fun k hk => ?_⟩
  · unfold tgF; rw [if_pos hk]
  · unfold tgF; rw [if_neg (by omega)]
    split
    · exact .inr hi
    · exact .inl rfl
  · unfold tgF
    have := hm.size
    rw [if_neg (by omega), if_neg (by omega)]
theorem tgF_mv {F' : Fp} (hs : Sub w (Ow tag i) F') : Mv w' w' F' (Ow (tgF w w' tag i F') i) := Mv.same fun k hk hf => by
  show tgF w w' tag i F' k = i
  unfold tgF
  rcases Nat.lt_or_ge k w.heap.size with hl | hl
  · rw [if_pos hl]
    rcases hs k hf with h | h
    · exact h
    · omega
  · rw [if_neg (by omega), if_pos ⟨hf, hk⟩]
theorem DLeft.turn {z : Nat} {d' : Dsk} (hT : Tidy w tag) (h : DLeft (Ow tag i) z d' w w') (hi : I i) : ∃ tag', Turn I w tag w' tag' ∧ Dk w' (Ow tag' i) z d' := by
  obtain ⟨F', hd, hm, hs⟩ := h
  exact ⟨_, turn_of hT hm hs hi, hd.mv (tgF_mv hs)⟩
end
end Go.Proofs.YtbpnbcjgkbpmgaaGreat
namespace Go.Proofs.YtbpnbcjgkbpmgaaGreat
open Go.RowKit Go.Lg Ds
set_option linter.unusedVariables false
set_option linter.unusedSimpArgs false
def Asked (b : Bool) (w : World) (e : Ending) (w' : World) : Prop := e = .returned (.bool b) ∧ w = w'
def Num0 (n : Int) (w : World) (e : Ending) (w' : World) : Prop := e = .returned (.int .i64 n) ∧ w = w'
theorem asked_eq {a b : Bool} {w : World} (h : a = b) : Asked b w (.returned (.bool a)) w := ⟨by rw [h], rfl⟩
section
variable {w : World} {tag : Nat → Nat} {z : Nat} {d : Dsk} {st : Int} {V : Nat → Value} {pv : Value} {ps : List Sp} {F : Fp}
theorem dcells (h : Blk w z 128 (dcs d st V pv)) :
    w.cell? ⟨z, 0, none⟩ = some (.bool true) ∧ w.cell? ⟨z, 1, none⟩ = some (.bool d.off) ∧ w.cell? ⟨z, 2, none⟩ = some (.bool d.fused) ∧ w.cell? ⟨z, 3, none⟩ = some (.int .i64 d.fuse) ∧ w.cell? ⟨z, 4, none⟩ = some (.int .i64 st) ∧ w.cell? ⟨z, 9, none⟩ = some pv :=
  ⟨h.cell 0, h.cell 1, h.cell 2, h.cell 3, h.cell 4, h.cell 9⟩
end
set_option maxHeartbeats 1000000 in
set_option maxRecDepth 100000 in
theorem none65 {w : World} {F : Fp} {z : Nat} {d : Dsk} (h : Dk w F z d) : Calls Tryz.prog 65 #[P z] w (Asked false w) := by
  obtain ⟨tag, st, V, pv, ps, hF, ht⟩ := h
  obtain ⟨c0, _⟩ := dcells ht.blk.1
  clear ht
  go_enter Tryz.func65, Tryz.ntmps65
  go_wp2_with fail
  go_ret
  exact asked_eq rfl
set_option maxHeartbeats 1000000 in
set_option maxRecDepth 100000 in
theorem is66 (f : Int) (w : World) : Calls Tryz.prog 66 #[.int .i64 f] w (Asked (isF f) w) := by
  by_cases h0 : 0 ≤ f
  · by_cases h4 : f < 4
    · have HR : Hid (isF f = true) := by simp [isF, Hid, h0, h4]
      go_enter Tryz.func66, Tryz.ntmps66
      go_wp2_with fail
      go_ret
      exact asked_eq HR.out.symm
    · have HR : Hid (isF f = false) := by simp [isF, Hid, h0, h4]
      have q : decide (f < 4) = false := by simpa using h4
      go_enter Tryz.func66, Tryz.ntmps66
      go_wp2_with fail
      go_ret
      exact asked_eq HR.out.symm
  · have HR : Hid (isF f = false) := by simp [isF, Hid, h0]
    have q : decide (0 ≤ f) = false := by simpa using h0
    have q2 : ¬0 ≤ f := h0
    go_enter Tryz.func66, Tryz.ntmps66
    go_wp2_with fail
    go_ret
    exact asked_eq HR.out.symm
set_option maxHeartbeats 1000000 in
set_option maxRecDepth 100000 in
theorem wrong103 {w : World} {F : Fp} {z : Nat} {d : Dsk} (h : Dk w F z d) : Calls Tryz.prog 103 #[P z] w (Num0 (if d.off then 6 else 0) w) := by
  have hn := none65 h
  obtain ⟨tag, st, V, pv, ps, hF, ht⟩ := h
  obtain ⟨c0, c1, _⟩ := dcells ht.blk.1
  clear ht
  obtain ⟨off, fused, fuse, dur, pend⟩ := d
  cases off
  all_goals
    go_enter Tryz.func103, Tryz.ntmps103
    go_wp2_with (go_at_call 65; (with_reducible refine hn.mono ?_); rintro e' w1 ⟨rfl, rfl⟩)
    go_ret
    exact ⟨rfl, rfl⟩
set_option maxHeartbeats 1000000 in
set_option maxRecDepth 100000 in
theorem on118 {w : World} {F : Fp} {z : Nat} {d : Dsk} (h : Dk w F z d) : Calls Tryz.prog 118 #[P z] w (Asked (!d.off) w) := by
  have hn := none65 h
  obtain ⟨tag, st, V, pv, ps, hF, ht⟩ := h
  obtain ⟨c0, c1, _⟩ := dcells ht.blk.1
  clear ht
  obtain ⟨off, fused, fuse, dur, pend⟩ := d
  cases off
  all_goals
    go_enter Tryz.func118, Tryz.ntmps118
    go_wp2_with (go_at_call 65; (with_reducible refine hn.mono ?_); rintro e' w1 ⟨rfl, rfl⟩)
    go_ret
    exact ⟨rfl, rfl⟩
def NewD (w : World) (e : Ending) (w' : World) : Prop := ∃ z F, e = .returned (P z) ∧ Dk w' F z Ds.New ∧ Below w.heap.size w w' ∧ ∀ k, F k → w.heap.size ≤ k
set_option maxHeartbeats 1000000 in
set_option maxRecDepth 100000 in
theorem new41 (w : World) : Calls Tryz.prog 41 #[] w (NewD w) := by
  go_enter Tryz.func41, Tryz.ntmps41
  go_wp2_with fail
  go_ret
  refine ⟨w.heap.size, fun k => k = w.heap.size, rfl, ⟨fun k => if k = w.heap.size then 1 else 0, 0, fun _ => .slice none 0 0, .slice none 0 0, [], fun k hk => ?_, ⟨⟨Blk.new w 128 _, by simp⟩, fun f hf => Sl.nil_ _ _ _ _, Sl.nil_ _ _ _ _, rfl, fun s hs => absurd hs List.not_mem_nil⟩⟩, (Below.refl _ _).alloc (Nat.le_refl _) _, fun k hk => by rw [hk]; exact Nat.le_refl _⟩
  split at hk
  · assumption
  · exact absurd rfl hk
end Go.Proofs.YtbpnbcjgkbpmgaaGreat
set_option linter.unusedVariables false
namespace Sl
def E (l : List (Int × Int)) (i : Nat) : Int := (l.getD i (0, 0)).1
def F (l : List (Int × Int)) (i : Nat) : Int := (l.getD i (0, 0)).2
def good (l : List (Int × Int)) (e : Int) (i : Nat) : Prop :=
  (if i = 0 then 0 else E l (i - 1)) < E l i ∧ E l i ≤ 1048576 ∧ (if i = 0 then 0 else F l (i - 1)) < F l i ∧ F l i ≤ e ∧ (i = 0 → F l i = 1)
instance (l : List (Int × Int)) (e : Int) (i : Nat) : Decidable (good l e i) := by unfold good; infer_instance
def head (l : List (Int × Int)) (e : Int) : Prop := 0 ≤ e ∧ e ≤ 1048576 ∧ (l.length = 0 ↔ e = 0)
instance (l : List (Int × Int)) (e : Int) : Decidable (head l e) := by unfold head; infer_instance
def ok (l : List (Int × Int)) (e : Int) : Prop := head l e ∧ ∀ i, i < l.length → good l e i
instance (l : List (Int × Int)) (e : Int) : Decidable (ok l e) := by unfold ok; infer_instance
def chk (l : List (Int × Int)) (e : Int) : Int := if ok l e then 0 else 5
def cnt : List (Int × Int) → Int → Nat
  | [], _ => 0
  | s :: l, n => if s.2 ≤ n then cnt l n + 1 else 0
def epo (l : List (Int × Int)) (i : Nat) : Int := if i = 0 then 0 else E l (i - 1)
def ep (l : List (Int × Int)) (n : Int) : Int := epo l (cnt l n)
def Fork (a : List (Int × Int)) (ae : Int) (b : List (Int × Int)) (be x : Int) : Prop :=
  0 ≤ x ∧ x ≤ ae ∧ x ≤ be ∧ ep a x = ep b x ∧ ∀ y, x < y → y ≤ ae → y ≤ be → ep a y ≠ ep b y
def last (l : List (Int × Int)) (e : Int) (i : Nat) : Int := if i + 1 < l.length then F l (i + 1) - 1 else e
def Sofar (a : List (Int × Int)) (ae : Int) (b : List (Int × Int)) (be : Int) (i k : Nat) (f : Int) : Prop :=
  0 ≤ f ∧ f ≤ ae ∧ f ≤ be ∧ ep a f = ep b f ∧ (i < a.length → f < F a i) ∧ ∀ y, f < y → y ≤ ae → y ≤ be → ep a y = ep b y → i < cnt a y ∧ k < cnt b y
end Sl
namespace Go.Proofs.YtbpnbcjgkbpmgaaGreat.St
open Go.RowKit Go.Lg
set_option linter.unusedVariables false
set_option linter.unusedSimpArgs false
def sts (l : List (Int × Int)) : List Value := l.flatMap fun s => [.int .i64 s.1, .int .i64 s.2]
theorem sts_get : ∀ (l : List (Int × Int)) (j : Nat), j < l.length → (sts l)[j * 2]? = some (.int .i64 (Sl.E l j)) ∧ (sts l)[j * 2 + 1]? = some (.int .i64 (Sl.F l j))
  | [], j, h => absurd h (Nat.not_lt_zero _)
  | a :: l, 0, _ => ⟨rfl, rfl⟩
  | a :: l, j + 1, h => by
    have e1 : sts (a :: l) = [.int .i64 a.1, .int .i64 a.2] ++ sts l := rfl
    have e2 : (j + 1) * 2 = j * 2 + 1 + 1 := by omega
    have h1 := sts_get l j (by simpa using h)
    rw [e1, e2]
    exact h1
def SS (w : World) (B : Nat) (A : Option Addr) (n : Nat) (l : List (Int × Int)) : Prop := Rd w B 2 A n (sts l) ∧ l.length = n
theorem SS.at_ {w : World} {B n : Nat} {A : Option Addr} {l : List (Int × Int)} {j : Nat} (h : SS w B A n l) (hj : j < n) :
    ∃ b off, A = some ⟨b, off, none⟩ ∧ b < B ∧ w.cell? ⟨b, off + j * 2, none⟩ = some (.int .i64 (Sl.E l j)) ∧ w.cell? ⟨b, off + j * 2 + 1, none⟩ = some (.int .i64 (Sl.F l j)) := by
  obtain ⟨h1, h2⟩ := h
  obtain ⟨b, off, rfl, hb, hc⟩ := h1.2 (by omega)
  obtain ⟨g1, g2⟩ := sts_get l j (by omega)
  exact ⟨b, off, rfl, hb, hc _ _ g1, by have := hc _ _ g2; rwa [← Nat.add_assoc] at this⟩
theorem SS.keep {w w' : World} {B n : Nat} {A : Option Addr} {l : List (Int × Int)} (h : SS w B A n l) (hb : Below B w w') : SS w' B A n l := ⟨h.1.below hb, h.2⟩
theorem SS.more {w : World} {B B' n : Nat} {A : Option Addr} {l : List (Int × Int)} (h : SS w B A n l) (hb : B ≤ B') : SS w B' A n l := ⟨h.1.more hb, h.2⟩
def Num (n : Int) (w : World) (e : Ending) (w' : World) : Prop := e = .returned (.int .i64 n) ∧ Below w.heap.size w w'
theorem bl_trans {B : Nat} {a b c : World} (h : Below B a b) (k : Below b.heap.size b c) (hB : B ≤ b.heap.size) : Below B a c :=
  h.trans (k.mono hB)
theorem chk_bad {l : List (Int × Int)} {e : Int} (h : ¬Sl.ok l e) : Sl.chk l e = 5 := if_neg h
theorem chk_ok {l : List (Int × Int)} {e : Int} (h : Sl.ok l e) : Sl.chk l e = 0 := if_pos h
theorem num_eq {n m : Int} {w w' : World} (h : n = m) (hb : Below w.heap.size w w') : Num m w (.returned (.int .i64 n)) w' := ⟨by rw [h], hb⟩
set_option maxHeartbeats 4000000 in
set_option maxRecDepth 100000 in
theorem check11 (A : Option Addr) (n c : Nat) (l : List (Int × Int)) (e : Int) (w : World) (h : SS w w.heap.size A n l) (hn : n ≤ 9223372036854775807) :
    Calls Tryz.prog 201 #[.slice A n c, .int .i64 e] w (Num (Sl.chk l e) w) := by
  have HL := hid h.2
  by_cases hh : Sl.head l e
  · obtain ⟨h1, h2, h3⟩ := hh
    rw [h.2] at h3
    have HH : Hid (Sl.head l e) := ⟨h1, h2, by rw [HL.out]; exact h3⟩
    have f1 : ¬e < 0 := by omega
    have f2 : ¬1048576 < e := by omega
    have f3 : ((n : Int) == 0) = (e == 0) := by
      rw [Bool.eq_iff_iff]
      simp only [beq_iff_eq]
      omega
    have hb := (Below.refl w.heap.size w).alloc (Nat.le_refl _) (.cells #[.int .i64 0, .int .i64 0] 198)
    have kl := Blk.new w 198 #[.int .i64 0, .int .i64 0]
    go_enter Tryz.func201, Tryz.ntmps201
    go_wp2_with fail
    obtain ⟨W, hW⟩ : ∃ W, W = w.alloc (.cells #[.int .i64 0, .int .i64 0] 198) := ⟨_, rfl⟩
    rw [← hW] at kl hb ⊢
    clear hW
    go_loopg [25] n (fun k i wr => ∃ (j : Nat) (x y : Int), j ≤ n ∧ k = n - j ∧ i = .int .i64 j ∧ Hid (x = (if j = 0 then 0 else Sl.E l (j - 1))) ∧ Hid (y = (if j = 0 then 0 else Sl.F l (j - 1))) ∧ Hid (∀ i, i < j → Sl.good l e i) ∧ Below w.heap.size w wr ∧ Blk wr w.heap.size 198 #[.int .i64 x, .int .i64 y])
    case atStart => exact ⟨0, 0, 0, by omega, rfl, rfl, hid rfl, hid rfl, hid (fun i hi => absurd hi (Nat.not_lt_zero _)), hb, kl⟩
    case round =>
      clear hb kl
      obtain ⟨j, x, y, hj, rfl, rfl, hx, hy, hgo, hb, kl⟩ := hrel
      by_cases hlt : j < n
      · have hw := h.keep hb
        obtain ⟨b, off, rfl, hbB, c0, c1⟩ := hw.at_ hlt
        obtain ⟨u, hu⟩ : ∃ u, u = Sl.E l j := ⟨_, rfl⟩
        obtain ⟨v, hv⟩ : ∃ v, v = Sl.F l j := ⟨_, rfl⟩
        rw [← hu] at c0
        rw [← hv] at c1
        have hji : (j : Int) < (n : Int) := by omega
        have HU := hid hu
        have HV := hid hv
        have HB := hid hb
        have HK := hid kl
        have kl2 := kl.alloc (.cells #[.int .i64 u, .int .i64 v] 198)
        have ks := Blk.new wr 198 #[.int .i64 u, .int .i64 v]
        have l0 : (wr.alloc (.cells #[.int .i64 u, .int .i64 v] 198)).cell? ⟨w.heap.size, 0, none⟩ = some (.int .i64 x) := kl2.cell 0
        have l1 : (wr.alloc (.cells #[.int .i64 u, .int .i64 v] 198)).cell? ⟨w.heap.size, 1, none⟩ = some (.int .i64 y) := kl2.cell 1
        have s0 : (wr.alloc (.cells #[.int .i64 u, .int .i64 v] 198)).cell? ⟨wr.heap.size, 0, none⟩ = some (.int .i64 u) := ks.cell 0
        have s1 : (wr.alloc (.cells #[.int .i64 u, .int .i64 v] 198)).cell? ⟨wr.heap.size, 1, none⟩ = some (.int .i64 v) := ks.cell 1
        have lf0 := kl2.frozen 0
        have m0 : wr.cell? ⟨w.heap.size, 0, none⟩ = some (.int .i64 x) := kl.cell 0
        have m1 : wr.cell? ⟨w.heap.size, 1, none⟩ = some (.int .i64 y) := kl.cell 1
        have lf1 : ((wr.setCell ⟨w.heap.size, 0, none⟩ (.int .i64 u)).alloc (.cells #[.int .i64 u, .int .i64 v] 198)).frozen? ⟨w.heap.size, 1, none⟩ = false := ((kl.set_ 0 (.int .i64 u)).alloc _).frozen 1
        have hlt9 : w.heap.size < wr.heap.size := kl.lt
        have hlt9' : w.heap.size ≤ wr.heap.size := Nat.le_of_lt hlt9
        clear hu hv hb kl kl2 ks hw
        by_cases hg : x < u ∧ u ≤ 1048576 ∧ y < v ∧ v ≤ e ∧ (j = 0 → v = 1)
        · obtain ⟨g1, g2, g3, g4, g5⟩ := hg
          have g1' : ¬u ≤ x := by omega
          have g2' : ¬1048576 < u := by omega
          have g3' : ¬v ≤ y := by omega
          have g4' : ¬e < v := by omega
          have HG := hid g5
          by_cases hj0 : j = 0
          · have q1 : ((j : Int) == 0) = true := by simp [hj0]
            have q2 : (v == 1) = true := by simp [g5 hj0]
            have q3 : (v != 1) = false := by simp [g5 hj0]
            clear g5 hj0
            go_wp2_with fail
            go_roundg (n - (j + 1))
            case measure => omega
            case rel =>
              refine ⟨j + 1, u, v, by omega, rfl, by go_num, hid (by simpa using HU.out), hid (by simpa using HV.out), hid ?_, ?_, ?_⟩
              · intro i hi
                rcases Nat.lt_or_ge i j with h9 | h9
                · exact hgo.out i h9
                · obtain rfl : i = j := by omega
                  exact ⟨by rw [← hx.out, ← HU.out]; exact g1, by rw [← HU.out]; exact g2, by rw [← hy.out, ← HV.out]; exact g3, by rw [← HV.out]; exact g4, by rw [← HV.out]; exact HG.out⟩
              · exact ((HB.out.setCell (p := ⟨w.heap.size, 0, none⟩) (Nat.le_refl _) _).setCell (p := ⟨w.heap.size, 1, none⟩) (Nat.le_refl _) _).alloc (by simpa using hlt9') _
              · exact ((HK.out.set_ 0 _).set_ 1 _).alloc _
          · have q1 : ((j : Int) == 0) = false := by simp [hj0]
            clear g5 hj0
            go_wp2_with fail
            go_roundg (n - (j + 1))
            case measure => omega
            case rel =>
              refine ⟨j + 1, u, v, by omega, rfl, by go_num, hid (by simpa using HU.out), hid (by simpa using HV.out), hid ?_, ?_, ?_⟩
              · intro i hi
                rcases Nat.lt_or_ge i j with h9 | h9
                · exact hgo.out i h9
                · obtain rfl : i = j := by omega
                  exact ⟨by rw [← hx.out, ← HU.out]; exact g1, by rw [← HU.out]; exact g2, by rw [← hy.out, ← HV.out]; exact g3, by rw [← HV.out]; exact g4, by rw [← HV.out]; exact HG.out⟩
              · exact ((HB.out.setCell (p := ⟨w.heap.size, 0, none⟩) (Nat.le_refl _) _).setCell (p := ⟨w.heap.size, 1, none⟩) (Nat.le_refl _) _).alloc (by simpa using hlt9') _
              · exact ((HK.out.set_ 0 _).set_ 1 _).alloc _
        · have hbad : ¬Sl.ok l e := fun hk => hg (by
            have h9 := hk.2 j (by rw [HL.out]; exact hlt)
            unfold Sl.good at h9
            rw [← hx.out, ← hy.out, ← HU.out, ← HV.out] at h9
            exact h9)
          have HBAD := hid (chk_bad hbad)
          clear hbad
          have hcs : u ≤ x ∨ (¬u ≤ x ∧ 1048576 < u) ∨ (¬u ≤ x ∧ ¬1048576 < u ∧ v ≤ y) ∨ (¬u ≤ x ∧ ¬1048576 < u ∧ ¬v ≤ y ∧ e < v) ∨ (¬u ≤ x ∧ ¬1048576 < u ∧ ¬v ≤ y ∧ ¬e < v ∧ ((j : Int) == 0) = true ∧ (v != 1) = true) := by
            simp only [beq_iff_eq, bne_iff_ne]
            omega
          clear hg
          rcases hcs with g1 | ⟨g1, g2⟩ | ⟨g1, g2, g3⟩ | ⟨g1, g2, g3, g4⟩ | ⟨g1, g2, g3, g4, g5, g6⟩
          all_goals
            go_wp2_with fail
            go_ret
            exact num_eq HBAD.out.symm (HB.out.alloc hlt9' _)
      · obtain rfl : j = n := by omega
        have HOK : Hid (Sl.chk l e = 0) := chk_ok ⟨HH.out, fun i hi => hgo.out i (by rw [← HL.out]; exact hi)⟩
        go_wp2_with fail
        go_ret
        exact num_eq HOK.out.symm hb
  · have hb : ¬Sl.ok l e := fun hk => hh hk.1
    have HB := hid (chk_bad hb)
    clear hb
    have hc : e < 0 ∨ (¬e < 0 ∧ 1048576 < e) ∨ (¬e < 0 ∧ ¬1048576 < e ∧ ((n : Int) == 0) = true ∧ (e == 0) = false) ∨ (¬e < 0 ∧ ¬1048576 < e ∧ ((n : Int) == 0) = false ∧ (e == 0) = true) := by
      unfold Sl.head at hh
      rw [h.2] at hh
      simp only [beq_iff_eq, beq_eq_false_iff_ne]
      omega
    clear hh
    rcases hc with f1 | ⟨f1, f2⟩ | ⟨f1, f2, f3, f4⟩ | ⟨f1, f2, f3, f4⟩
    all_goals
      go_enter Tryz.func201, Tryz.ntmps201
      go_wp2_with fail
      go_ret
      exact num_eq HB.out.symm (Below.refl _ _)
end Go.Proofs.YtbpnbcjgkbpmgaaGreat.St
namespace Go.Proofs.YtbpnbcjgkbpmgaaGreat.St
open Go.RowKit Go.Lg
set_option linter.unusedVariables false
set_option linter.unusedSimpArgs false
structure Op3 where
  put : Bool
  key : ByteArray
  val : ByteArray
abbrev Op3.v (o : Op3) : Value := .agg #[.bool o.put, .string o.key, .string o.val]
def Op3.ok (o : Op3) : Prop := 1 ≤ o.key.size ∧ o.key.size ≤ 16 ∧ o.val.size ≤ 32 ∧ (o.put = false → o.val.toList.isEmpty = true)
instance (o : Op3) : Decidable o.ok := by unfold Op3.ok; infer_instance
def opk (o : Op3) : Int := if o.ok then 0 else 2
set_option maxHeartbeats 2000000 in
set_option maxRecDepth 100000 in
theorem opcheck55 (o : Op3) (w : World) : Calls Tryz.prog 70 #[o.v] w (Num (opk o) w) := by
  obtain ⟨p, k, v⟩ := o
  have hb := (Below.refl w.heap.size w).alloc (Nat.le_refl _) (.cells #[.bool p, .string k, .string v] 77)
  by_cases hok : (Op3.mk p k v).ok
  · have HR : Hid (opk ⟨p, k, v⟩ = 0) := if_pos hok
    obtain ⟨h1, h2, h3, h4⟩ := hok
    simp only at h1 h2 h3 h4
    have f1 : ¬(k.size : Int) < 1 := by omega
    have f2 : ¬(16 : Int) < (k.size : Int) := by omega
    have f3 : ¬(32 : Int) < (v.size : Int) := by omega
    cases p with
    | true =>
      clear h4
      go_enter Tryz.func70, Tryz.ntmps70
      go_wp2_with fail
      go_ret
      exact num_eq HR.out.symm hb
    | false =>
      have h5 := h4 rfl
      clear h4
      go_enter Tryz.func70, Tryz.ntmps70
      go_wp2_with fail
      go_ret
      exact num_eq HR.out.symm hb
  · have HR : Hid (opk ⟨p, k, v⟩ = 2) := if_neg hok
    have hc : (k.size : Int) < 1 ∨ (1 ≤ (k.size : Int) ∧ (16 : Int) < (k.size : Int)) ∨ (1 ≤ (k.size : Int) ∧ (k.size : Int) ≤ 16 ∧ (32 : Int) < (v.size : Int)) ∨ (1 ≤ (k.size : Int) ∧ (k.size : Int) ≤ 16 ∧ (v.size : Int) ≤ 32 ∧ p = false ∧ v.toList.isEmpty = false) := by
      unfold Op3.ok at hok
      simp only at hok
      by_cases hp : p = false
      · by_cases hv : v.toList.isEmpty = true
        · have : ¬(1 ≤ k.size ∧ k.size ≤ 16 ∧ v.size ≤ 32) := fun ⟨a, b, c⟩ => hok ⟨a, b, c, fun _ => hv⟩
          omega
        · have : v.toList.isEmpty = false := by simpa using hv
          simp only [hp, this, and_true]
          omega
      · have : ¬(1 ≤ k.size ∧ k.size ≤ 16 ∧ v.size ≤ 32) := fun ⟨a, b, c⟩ => hok ⟨a, b, c, fun h => absurd h hp⟩
        omega
    clear hok
    rcases hc with g1 | ⟨g1, g2⟩ | ⟨g1, g2, g3⟩ | ⟨g1, g2, g3, rfl, g4⟩
    all_goals
      go_enter Tryz.func70, Tryz.ntmps70
      go_wp2_with fail
      go_ret
      exact num_eq HR.out.symm hb
end Go.Proofs.YtbpnbcjgkbpmgaaGreat.St
