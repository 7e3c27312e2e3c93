/- A primary answers without waiting for the other site, as many times as its leash allows: of any acts. No condition. (part 2) -/
import Derived.Test.YtbpnbcjgkbpmgaaGreatMAa
namespace Go.Lg
open Go.RowKit
set_option linter.unusedVariables false
set_option linter.unusedSimpArgs false
abbrev Fp := Nat → Prop
structure Mod (F : Fp) (w w' : World) : Prop where
  os : w'.os = w.os
  tape : w'.tape = w.tape
  output : w'.output = w.output
  size : w.heap.size ≤ w'.heap.size
  block : ∀ k, k < w.heap.size → ¬F k → w'.heap[k]? = w.heap[k]?
def Sub (w : World) (F F' : Fp) : Prop := ∀ k, F' k → F k ∨ w.heap.size ≤ k
def Dj (F G : Fp) : Prop := ∀ k, F k → G k → False
def Mv (w w' : World) (F G : Fp) : Prop := ∀ k, k < w.heap.size → F k → G k ∧ w'.heap[k]? = w.heap[k]?
section
variable {w w' w2 : World} {F F' G G' : Fp}
theorem Mod.refl (F : Fp) (w : World) : Mod F w w := ⟨rfl, rfl, rfl, Nat.le_refl _, fun _ _ _ => rfl⟩
theorem Mod.of_below (h : Below w.heap.size w w') : Mod F w w' := ⟨h.os, h.tape, h.output, h.size, fun k hk _ => h.block k hk⟩
theorem Mod.below (h : Mod F w w') (hF : ∀ k, k < w.heap.size → F k → False) : Below w.heap.size w w' := ⟨h.os, h.tape, h.output, h.size, fun k hk => h.block k hk (hF k hk)⟩
theorem Mod.more (h : Mod F w w') (hF : ∀ k, F k → G k) : Mod G w w' := ⟨h.os, h.tape, h.output, h.size, fun k hk hn => h.block k hk fun h1 => hn (hF k h1)⟩
theorem Mod.trans (h : Mod F w w') (k : Mod F' w' w2) (hs : Sub w F F') : Mod F w w2 :=
  ⟨k.os.trans h.os, k.tape.trans h.tape, k.output.trans h.output, Nat.le_trans h.size k.size, fun i hi hn => (k.block i (Nat.lt_of_lt_of_le hi h.size) (fun h1 => by
    rcases hs i h1 with h2 | h2
    · exact hn h2
    · omega)).trans (h.block i hi hn)⟩
theorem Mod.trans_ (h : Mod F w w') (k : Mod F w' w2) : Mod F w w2 := h.trans k fun _ h => .inl h
theorem Mod.behind (h : Mod F w w') (k : Below w'.heap.size w' w2) : Mod F w w2 := h.trans_ (Mod.of_below k)
theorem Mod.setCell {p : Addr} (hp : F p.block) (v : Value) : Mod F w (w.setCell p v) :=
  ⟨rfl, rfl, rfl, by simp [World.setCell], fun k _ hn => Below.heap_setCell w p v k (fun e => hn (e ▸ hp))⟩
theorem Mod.grown {row : Option Nat} (h : w.grownBy w' row) (hr : ∀ g, row = some g → F g) : Mod F w w' :=
  ⟨h.os, h.tape, h.output, h.size, fun k hk hn => h.block k hk fun e => hn (hr k e.symm)⟩
theorem Mod.alloc (F : Fp) (w : World) (o : Obj) : Mod F w (w.alloc o) := Mod.of_below ((Below.refl _ _).alloc (Nat.le_refl _) o)
theorem Mod.drewN (F : Fp) (w : World) (n : Nat) : Mod F w (w.drewN n) := ⟨rfl, rfl, rfl, Nat.le_refl _, fun _ _ _ => rfl⟩
theorem Sub.refl (w : World) (F : Fp) : Sub w F F := fun _ h => .inl h
theorem Sub.trans (h : Sub w F F') (k : Sub w' F' G) (hs : w.heap.size ≤ w'.heap.size) : Sub w F G := fun i hi => by
  rcases k i hi with h1 | h1
  · exact h i h1
  · exact .inr (Nat.le_trans hs h1)
theorem Sub.from_ (h : Sub w' F F') (hs : w.heap.size ≤ w'.heap.size) : Sub w F F' := fun i hi => by
  rcases h i hi with h1 | h1
  · exact .inl h1
  · exact .inr (Nat.le_trans hs h1)
theorem Dj.symm (h : Dj F G) : Dj G F := fun k a b => h k b a
theorem Mod.mv (h : Mod F w w') (hd : Dj G F) : Mv w w' G G := fun k hk hg => ⟨hg, h.block k hk fun hf => hd k hg hf⟩
theorem bmv (h : Below w.heap.size w w') (G : Fp) : Mv w w' G G := fun k hk hg => ⟨hg, h.block k hk⟩
theorem Mv.same (hG : ∀ k, k < w.heap.size → F k → G k) : Mv w w F G := fun k hk hf => ⟨hG k hk hf, rfl⟩
theorem Mv.trans (h : Mv w w' F G) (k : Mv w' w2 G G') (hs : w.heap.size ≤ w'.heap.size) : Mv w w2 F G' := fun i hi hf => by
  obtain ⟨h1, h2⟩ := h i hi hf
  obtain ⟨h3, h4⟩ := k i (Nat.lt_of_lt_of_le hi hs) h1
  exact ⟨h3, h4.trans h2⟩
theorem Mv.to (h : Mv w w' F G) (k : ∀ i, G i → G' i) : Mv w w' F G' := fun i hi hf => ⟨k i (h i hi hf).1, (h i hi hf).2⟩
end
structure BlkF (w : World) (F : Fp) (g : Nat) (t : TypeId) (cs : Array Value) : Prop where
  blk : Blk w g t cs
  in_ : F g
theorem BlkF.mv {w w' : World} {F G : Fp} {g : Nat} {t : TypeId} {cs : Array Value} (h : BlkF w F g t cs) (m : Mv w w' F G) : BlkF w' G g t cs :=
  ⟨(m g h.1.lt h.2).2.trans h.1, (m g h.1.lt h.2).1⟩
structure RdF (w : World) (F : Fp) (sz : Nat) (A : Option Addr) (n : Nat) (xs : List Value) : Prop where
  len : xs.length = n * sz
  at_ : 0 < xs.length → ∃ b off, A = some ⟨b, off, none⟩ ∧ F b ∧ ∀ j u, xs[j]? = some u → w.cell? ⟨b, off + j, none⟩ = some u
section
variable {w w' : World} {F G : Fp} {sz n : Nat} {A : Option Addr} {xs : List Value}
theorem RdF.nil_ : RdF w F sz A 0 [] := ⟨by simp, fun h => by simp at h⟩
theorem RdF.rd (h : RdF w F sz A n xs) (hsz : 0 < sz) : Rd w w.heap.size sz A n xs := by
  refine ⟨h.1, fun hn => ?_⟩
  have hl : 0 < xs.length := by rw [h.1]; exact Nat.mul_pos hn hsz
  obtain ⟨b, off, e, _, hc⟩ := h.2 hl
  have h0 := hc 0 _ (List.getElem?_eq_getElem hl)
  exact ⟨b, off, e, World.block_lt_of_cell? w _ h0, hc⟩
theorem RdF.mv (h : RdF w F sz A n xs) (m : Mv w w' F G) : RdF w' G sz A n xs := by
  refine ⟨h.1, fun hl => ?_⟩
  obtain ⟨b, off, e, hb, hc⟩ := h.2 hl
  have h1 := hc 0 _ (List.getElem?_eq_getElem hl)
  have hlt := World.block_lt_of_cell? w _ h1
  obtain ⟨hg, he⟩ := m b hlt hb
  exact ⟨b, off, e, hg, fun j u hu => (World.cell?_of_block (a := ⟨b, off + j, none⟩) he).trans (hc j u hu)⟩
theorem RdF.to (h : RdF w F sz A n xs) (m : ∀ k, F k → G k) : RdF w G sz A n xs := h.mv (Mv.same fun k _ hk => m k hk)
theorem RdF.of_rd {B : Nat} (h : Rd w B sz A n xs) (hF : ∀ k, k < B → F k) : RdF w F sz A n xs := by
  refine ⟨h.1, fun hl => ?_⟩
  have hn : 0 < n := by
    rcases Nat.eq_zero_or_pos n with h0 | h0
    · have := h.1; rw [h0] at this; omega
    · exact h0
  obtain ⟨b, off, e, hb, hc⟩ := h.2 hn
  exact ⟨b, off, e, hF b hb, hc⟩
end
structure Sl (w : World) (F : Fp) (e : TypeId) (sz : Nat) (v : Value) (n : Nat) (xs : List Value) : Prop where
  len : xs.length = n * sz
  is_ : (v = .slice none 0 0 ∧ n = 0) ∨
   ∃ g off cap cur, v = .slice (some ⟨g, off, none⟩) n cap ∧ F g ∧ w.heap[g]? = some (.cells cur e (0, 0)) ∧ n ≤ cap ∧ cap ≤ maxLen ∧ off + cap * sz ≤ cur.size ∧ (cur.toList.drop off).take (n * sz) = xs
section
variable {w w' : World} {F G : Fp} {e : TypeId} {sz n : Nat} {v : Value} {xs : List Value}
theorem Sl.nil_ (w : World) (F : Fp) (e : TypeId) (sz : Nat) : Sl w F e sz (.slice none 0 0) 0 [] := ⟨by simp, .inl ⟨rfl, rfl⟩⟩
theorem Sl.mv (h : Sl w F e sz v n xs) (m : Mv w w' F G) : Sl w' G e sz v n xs := by
  refine ⟨h.1, ?_⟩
  rcases h.2 with h0 | ⟨g, off, cap, cur, h1, h2, h3, h4⟩
  · exact .inl h0
  · obtain ⟨q1, q2⟩ := m g (Array.getElem?_eq_some_iff.1 h3).1 h2
    exact .inr ⟨g, off, cap, cur, h1, q1, q2.trans h3, h4⟩
theorem Sl.to (h : Sl w F e sz v n xs) (m : ∀ k, F k → G k) : Sl w G e sz v n xs := h.mv (Mv.same fun k _ hk => m k hk)
theorem Sl.of_own {base : Nat} (h : w.ownsRow base e sz v n xs) (hF : ∀ g, v.ownBlock = some g → F g) : Sl w F e sz v n xs := by
  refine ⟨h.1, ?_⟩
  rcases h.2 with h0 | ⟨g, cap, cur, rfl, h1, h2, h3, h4, h5, h6⟩
  · exact .inl h0
  · exact .inr ⟨g, 0, cap, cur, rfl, hF g rfl, h2, h3, h4, by omega, by simpa using h6⟩
theorem Sl.slice_ (h : Sl w F e sz v n xs) : ∃ A c, v = .slice A n c ∧ n ≤ c ∧ c ≤ maxLen := by
  rcases h.2 with ⟨rfl, rfl⟩ | ⟨g, off, cap, cur, rfl, _, _, h3, h4, _⟩
  · exact ⟨none, 0, rfl, Nat.le_refl _, Nat.zero_le _⟩
  · exact ⟨_, cap, rfl, h3, h4⟩
theorem Sl.cap {A : Option Addr} {c : Nat} (h : Sl w F e sz (.slice A n c) n xs) : n ≤ c ∧ c ≤ maxLen := by
  obtain ⟨A', c', hv, h1, h2⟩ := h.slice_
  injection hv with _ _ hv
  subst hv
  exact ⟨h1, h2⟩
theorem Sl.rdf {A : Option Addr} {c : Nat} (h : Sl w F e sz (.slice A n c) n xs) : RdF w F sz A n xs := by
  refine ⟨h.1, fun hl => ?_⟩
  rcases h.2 with ⟨h0, h1⟩ | ⟨g, off, cap, cur, hv, h2, h3, h4, h5, h6, h7⟩
  · have := h.1; rw [h1] at this; omega
  · injection hv with hA _ _
    subst hA
    refine ⟨g, off, rfl, h2, fun j u hu => ?_⟩
    rw [cell_of_row w g (off + j) cur e (0, 0) h3]
    rw [← h7, List.getElem?_take] at hu
    split at hu
    · simpa using hu
    · cases hu
theorem Sl.lt (h : Sl w F e sz v n xs) : ∀ g, v.ownBlock = some g → F g ∧ g < w.heap.size := by
  intro k hk
  rcases h.2 with ⟨rfl, _⟩ | ⟨g, off, cap, cur, rfl, h2, h3, _⟩
  · simp [Value.ownBlock] at hk
  · simp [Value.ownBlock] at hk
    subst hk
    exact ⟨h2, (Array.getElem?_eq_some_iff.1 h3).1⟩
theorem Sl.re (h : Sl w F e sz v n xs) (hG : ∀ g, v.ownBlock = some g → G g) : Sl w G e sz v n xs := by
  refine ⟨h.1, ?_⟩
  rcases h.2 with h0 | ⟨g, off, cap, cur, rfl, h2, h3⟩
  · exact .inl h0
  · exact .inr ⟨g, off, cap, cur, rfl, hG g rfl, h3⟩
theorem Sl.gb (h : Sl w F e sz v n xs) {row : Option Nat} (hg : w.grownBy w' row) (hne : ∀ g, v.ownBlock = some g → some g ≠ row) : Sl w' F e sz v n xs := by
  refine ⟨h.1, ?_⟩
  rcases h.2 with h0 | ⟨g, off, cap, cur, rfl, h2, h3, h4⟩
  · exact .inl h0
  · exact .inr ⟨g, off, cap, cur, rfl, h2, (hg.block g (Array.getElem?_eq_some_iff.1 h3).1 (hne g rfl)).trans h3, h4⟩
theorem Sl.later (h : Sl w F e sz v n xs) (hb : Below w.heap.size w w') : Sl w' F e sz v n xs := h.mv (bmv hb F)
theorem Sl.alloc (h : Sl w F e sz v n xs) (o : Obj) : Sl (w.alloc o) F e sz v n xs := h.later ((Below.refl _ _).alloc (Nat.le_refl _) o)
theorem Sl.ne_blk (h : Sl w F e sz v n xs) {g : Nat} {t : TypeId} {cs : Array Value} (hg : Blk w g t cs) (hne : e ≠ t) : ∀ b, v.ownBlock = some b → b ≠ g := by
  rintro b hb rfl
  rcases h.2 with ⟨rfl, _⟩ | ⟨g', off, cap, cur, rfl, _, hh, _⟩
  · simp [Value.ownBlock] at hb
  · simp [Value.ownBlock] at hb
    subst hb
    unfold Blk at hg
    rw [hh] at hg
    injection hg with hg
    injection hg with _ hg
    exact hne hg
theorem Sl.ne_sl {F' : Fp} {e' : TypeId} {sz' n' : Nat} {v' : Value} {xs' : List Value} (h : Sl w F e sz v n xs) (h' : Sl w F' e' sz' v' n' xs') (hne : e ≠ e') : ∀ b, v.ownBlock = some b → v'.ownBlock = some b → False := by
  intro b hb hb'
  rcases h.2 with ⟨rfl, _⟩ | ⟨g, off, cap, cur, rfl, _, h1, _⟩
  · simp [Value.ownBlock] at hb
  · rcases h'.2 with ⟨rfl, _⟩ | ⟨g', off', cap', cur', rfl, _, h2, _⟩
    · simp [Value.ownBlock] at hb'
    · simp [Value.ownBlock] at hb hb'
      subst hb
      subst hb'
      rw [h1] at h2
      injection h2 with h2
      injection h2 with _ h2
      exact hne h2
theorem Sl.one (h : Sl w F e sz v n xs) : v.oneCell' = true := by
  obtain ⟨A, c, rfl, _⟩ := h.slice_
  rfl
theorem Sl.front {A : Option Addr} {c c' k : Nat} (h : Sl w F e sz (.slice A n c) n xs) (hk : k ≤ n) (hc : k ≤ c') (hcc : c' ≤ c) : Sl w F e sz (.slice A k c') k (xs.take (k * sz)) := by
  have hle : k * sz ≤ n * sz := Nat.mul_le_mul_right _ hk
  refine ⟨by rw [List.length_take, h.1]; omega, ?_⟩
  rcases h.2 with ⟨h0, h1⟩ | ⟨g, off, cap, cur, hv, h2, h3, h4, h5, h6, h7⟩
  · injection h0 with a1 a2 a3
    subst a1 a3
    exact .inl ⟨by rw [show k = 0 by omega, show c' = 0 by omega], by omega⟩
  · injection hv with a1 a2 a3
    subst a1 a3
    have : c' * sz ≤ c * sz := Nat.mul_le_mul_right _ hcc
    exact .inr ⟨g, off, c', cur, rfl, h2, h3, hc, by omega, by omega, by rw [← h7, List.take_take, Nat.min_eq_left hle]⟩
theorem Sl.behind {A : Option Addr} {c k : Nat} (h : Sl w F e sz (.slice A n c) n xs) (hk : k ≤ n) :
    Sl w F e sz (.slice (if c = k then A else A.map (·.add (k * sz))) (n - k) (c - k)) (n - k) (xs.drop (k * sz)) := by
  have hle : k * sz ≤ n * sz := Nat.mul_le_mul_right _ hk
  refine ⟨by rw [List.length_drop, h.1, Nat.sub_mul], ?_⟩
  rcases h.2 with ⟨h0, h1⟩ | ⟨g, off, cap, cur, hv, h2, h3, h4, h5, h6, h7⟩
  · injection h0 with a1 a2 a3
    subst a1 a3
    obtain rfl : k = 0 := by omega
    exact .inl ⟨by simp [h1], by omega⟩
  · injection hv with a1 a2 a3
    subst a1 a3
    have hs := Nat.sub_mul c k sz
    have hs2 := Nat.sub_mul n k sz
    have hkc : k * sz ≤ c * sz := Nat.mul_le_mul_right _ (by omega)
    by_cases hck : c = k
    · obtain rfl : k = n := by omega
      rw [if_pos hck]
      refine .inr ⟨g, off, c - k, cur, rfl, h2, h3, by omega, by omega, by omega, ?_⟩
      rw [← h7]; simp
    · rw [if_neg hck]
      refine .inr ⟨g, off + k * sz, c - k, cur, by simp [Addr.add_lit], h2, h3, by omega, by omega, by omega, ?_⟩
      rw [← h7, List.drop_take, List.drop_drop, hs2]
end
section
variable {P : Program} (w : World)
theorem run_append_sl {F G : Fp} (t ty e : TypeId) {sz by_ : Nat} (T : SlT P t e sz by_)
    (v : Value) (n : Nat) (xs : List Value) (hown : Sl w F e sz v n xs)
    (A : Option Addr) (m c : Nat) (news : List Value) (hr : RdF w G sz A m news) (h1 : ∀ u ∈ news, u.oneCell' = true)
    (hbytes : (n + m) * by_ ≤ 140737488355328) :
    ∃ v' w', (Builtin.append_ #[t, t] ty #[v, .slice A m c]).run P w = .ok v' w' ∧ Sl w' (fun k => F k ∨ w.heap.size ≤ k) e sz v' (n + m) (xs ++ news) ∧ w.grownBy w' v.ownBlock ∧
      (∀ g, v'.ownBlock = some g → v.ownBlock = some g ∨ w.heap.size ≤ g) := by
  obtain ⟨i, z, hi, hz, rfl, rfl, hzs⟩ := T.hi
  have ht := T.ht
  have hsz := T.hsz
  have hle : n + m ≤ (n + m) * i.bytes := Nat.le_mul_of_pos_right _ T.hby
  have h63 : n + m ≤ maxLen := by unfold maxLen; omega
  have own' : ∀ {w' : World} {v' : Value} {k : Nat} {ys : List Value}, w'.ownsRow w.heap.size e i.size v' k ys → Sl w' (fun k => F k ∨ w.heap.size ≤ k) e i.size v' k ys := fun ho => Sl.of_own ho fun g hg => .inr (ho.lt g hg).1
  rcases hown.2 with ⟨rfl, rfl⟩ | ⟨g, off, cap, cur, rfl, hF, hg, hnc, hcm, hcur, htake⟩
  · have hxs : xs = [] := List.eq_nil_of_length_eq_zero (by simpa using hown.1)
    subst hxs
    obtain ⟨v', w', q1, q2, q3, q4⟩ := run_append_any (P := P) w w.heap.size t ty e i z i.size i.bytes ht hi hz rfl rfl hzs hsz (.slice none 0 0) 0 [] (World.ownsRow_nil _ _ _ _) w.heap.size A m c news (hr.rd hsz) h1 h63 hbytes (Nat.le_refl _)
    exact ⟨v', w', q1, own' q2, q3, fun g hg => .inr (q2.lt g hg).1⟩
  · rcases Nat.eq_zero_or_pos m with h0 | h0
    · subst h0
      have hn : news = [] := List.eq_nil_of_length_eq_zero (by simpa using hr.1)
      subst hn
      refine ⟨.slice (some ⟨g, off, none⟩) n cap, w, ?_, ⟨by simpa using hown.1, .inr ⟨g, off, cap, cur, rfl, .inl hF, hg, hnc, hcm, hcur, by simpa using htake⟩⟩, World.grownBy.refl w _, fun g hg => .inl hg⟩
      cases A <;> simp [Builtin.append_, run_underlying ht, sizeOf, typeInfo, hi, Builtin.lenOf, Builtin.firstCells, hnc, storeCells, loadCells, loadCellsFrom]
    · have hl := hr.1
      obtain ⟨b, so, rfl, hGb, hc⟩ := hr.2 (by rw [hl]; exact Nat.mul_pos h0 hsz)
      have hnews : ∀ j u, news[j]? = some u → w.cell? ((⟨b, so, none⟩ : Addr).add j) = some u := fun j u hu => by rw [Addr.add_lit]; exact hc j u hu
      by_cases hroom : n + m ≤ cap
      · have hmul : (n + m) * i.size ≤ cap * i.size := Nat.mul_le_mul_right _ hroom
        rw [Nat.add_mul] at hmul
        have hf := run_firstCells_some (P := P) w i.size m ⟨b, so, none⟩ m c news hl hnews
        have hst := run_storeCells_at P g (off + n * i.size) e news 0 cur w hg (by rw [hl]; omega) h1
        simp only [Nat.add_zero] at hst
        have hgl := (Array.getElem?_eq_some_iff.1 hg).1
        refine ⟨.slice (some ⟨g, off, none⟩) (n + m) cap, w.setRow g (cur.toList.take (off + n * i.size) ++ news ++ cur.toList.drop (off + n * i.size + news.length)).toArray, ?_, ⟨by rw [List.length_append, hown.1, hl, Nat.add_mul], .inr ⟨g, off, cap, _, rfl, .inl hF, setRow_heap w g cur _ e _ hg, hroom, hcm, ?_, ?_⟩⟩, ⟨rfl, rfl, rfl, by simp, fun k _ hk => setRow_other w g k _ (fun e => hk (by simp [Value.ownBlock, e]))⟩, fun g hg => .inl hg⟩
        · simp [Builtin.append_, run_underlying ht, sizeOf, typeInfo, hi, Builtin.lenOf, hroom, hf, Addr.add_lit, hst]
        · simp [hl]; omega
        · have e1 : cur.toList.take (off + n * i.size) = cur.toList.take off ++ xs := by
            rw [List.take_add, htake]
          have hoff : (cur.toList.take off).length = off := by rw [List.length_take]; simp; omega
          rw [e1]
          simp only [List.append_assoc]
          rw [List.drop_append, List.drop_of_length_le (by omega), hoff, Nat.sub_self, List.drop_zero, List.nil_append, ← List.append_assoc, List.take_append_of_le_length (by rw [List.length_append, hown.1, hl, Nat.add_mul]; omega), List.take_of_length_le (by rw [List.length_append, hown.1, hl, Nat.add_mul]; omega)]
      · obtain ⟨v', w', q1, q2, q3⟩ := run_append_arg_grows (P := P) w t ty e i z i.size i.bytes ht hi hz rfl rfl hzs hsz ⟨g, off, none⟩ n cap xs hown.1 (fun j u hu => by
          rw [Addr.add_lit, cell_of_row w g (off + j) cur e (0, 0) hg]
          rw [← htake, List.getElem?_take] at hu
          split at hu
          · simpa using hu
          · cases hu) ⟨b, so, none⟩ m c news hl hnews (by omega) h63 hbytes
        refine ⟨v', w', q1, own' q2, ⟨q3.os, q3.tape, q3.output, q3.size, fun k hk _ => q3.block k hk (by simp)⟩, fun g hg => .inr (q2.lt g hg).1⟩
theorem wp_append_sl {F G : Fp} {t e : TypeId} {sz by_ : Nat} (T : SlT P t e sz by_) {o : Oper} {a : Act} {K : Act → World → Prop} {Q : Exit → Act → World → Prop} (s x : Operand)
    (ho : o.op = .call { callee := .builtin .append, args := #[s, x], argTypes := #[t, t] })
    {v : Value} {n : Nat} {xs : List Value} (hs : a.eval s = v) (hown : Sl w F e sz v n xs)
    {A : Option Addr} {m c : Nat} {news : List Value} (hx : a.eval x = .slice A m c) (hr : RdF w G sz A m news) (h1 : ∀ u ∈ news, u.oneCell' = true)
    (hbytes : (n + m) * by_ ≤ 140737488355328)
    (h : ∀ v' w', Sl w' (fun k => F k ∨ w.heap.size ≤ k) e sz v' (n + m) (xs ++ news) → w.grownBy w' v.ownBlock → (∀ g, v'.ownBlock = some g → v.ownBlock = some g ∨ w.heap.size ≤ g) → K (a.put o.dst v') w') : o.wp P a w K Q := by
  obtain ⟨v', w', hrun, h2, h3, h4⟩ := run_append_sl (P := P) w t o.type e T v n xs hown A m c news hr h1 hbytes
  unfold Oper.wp execOp
  simp only [ho, resolve, invoke, builtin, Sem.run_bind, Sem.run_pure, Result.andThen_ok, List.map_toArray, List.map_cons, List.map_nil, hs, hx, hrun]
  exact h v' w' h2 h3 h4
end
section
variable {P : Program} {t e : TypeId} {sz by_ : Nat} {w : World} {ops : Array Oper} {rest : List Oper} {o : Oper} {a : Act} {Q : Exit → Act → World → Prop}
theorem wpList_appS (T : SlT P t e sz by_) (s x : Operand)
    (hgd : o.guard = none) (ho : o.op = .call { callee := .builtin .append, args := #[s, x], argTypes := #[t, t] })
    {F G : Fp} {v : Value} {n : Nat} {xs : List Value} (hown : Sl w F e sz v n xs) (hs : a.eval s = v)
    {A : Option Addr} {m c : Nat} {news : List Value} (hr : RdF w G sz A m news) (hx : a.eval x = .slice A m c) (h1 : ∀ u ∈ news, u.oneCell' = true)
    (hbytes : (n + m) * by_ ≤ 140737488355328)
    (h : ∀ v' w', Sl w' (fun k => F k ∨ w.heap.size ≤ k) e sz v' (n + m) (xs ++ news) → w.grownBy w' v.ownBlock → (∀ g, v'.ownBlock = some g → v.ownBlock = some g ∨ w.heap.size ≤ g) → wpList P ops Q rest (a.put o.dst v') w') : wpList P ops Q (o :: rest) a w :=
  wpList_plain hgd fun _ hK => wp_append_sl w T s x ho hs hown hx hr h1 hbytes fun v' w' h2 h3 h4 => hK _ _ (h v' w' h2 h3 h4)
theorem step_appS (T : SlT P t e sz by_) {K : Act → World → Prop} {E : Prop} (s x : Operand)
    (hgd : o.guard = none) (ho : o.op = .call { callee := .builtin .append, args := #[s, x], argTypes := #[t, t] })
    {F G : Fp} {v : Value} {n : Nat} {xs : List Value} (hown : Sl w F e sz v n xs) (hs : a.eval s = v)
    {A : Option Addr} {m c : Nat} {news : List Value} (hr : RdF w G sz A m news) (hx : a.eval x = .slice A m c) (h1 : ∀ u ∈ news, u.oneCell' = true)
    (hbytes : (n + m) * by_ ≤ 140737488355328)
    (h : ∀ v' w', Sl w' (fun k => F k ∨ w.heap.size ≤ k) e sz v' (n + m) (xs ++ news) → w.grownBy w' v.ownBlock → (∀ g, v'.ownBlock = some g → v.ownBlock = some g ∨ w.heap.size ≤ g) → K (a.put o.dst v') w') :
    if Region.wanted o (yielded ops a.tmps) = true then Oper.wp P o a w K Q else E := by
  have hw : Region.wanted o (yielded ops a.tmps) = true := by simp [Region.wanted, hgd]
  rw [if_pos hw]
  exact wp_append_sl w T s x ho hs hown hx hr h1 hbytes h
theorem RdF.lit (w : World) (cs : Array Value) (t : TypeId) (n sz : Nat) (hs : cs.size = n * sz) : RdF (w.alloc (.cells cs t)) (fun k => k = w.heap.size) sz (some ⟨w.heap.size, 0, none⟩) n cs.toList :=
  ⟨by simpa using hs, fun _ => ⟨_, 0, rfl, rfl, fun j u hu => by
    have := (Blk.new w t cs).cell j
    rw [Nat.zero_add, this]
    simpa using hu⟩⟩
theorem wpList_appS1 (T : SlT P t e sz by_) (s x : Operand)
    (hgd : o.guard = none) (ho : o.op = .call { callee := .builtin .append, args := #[s, x], argTypes := #[t, t] })
    {F : Fp} {v : Value} {n : Nat} {xs : List Value} (hown : Sl w F e sz v n xs) (hs : a.eval s = v)
    {cs : Array Value} {c : Nat} (hcs : cs.size = sz) (hx : a.eval x = .slice (some ⟨w.heap.size, 0, none⟩) 1 c) (h1 : ∀ u ∈ cs.toList, u.oneCell' = true)
    (hbytes : (n + 1) * by_ ≤ 140737488355328)
    (h : ∀ v' w', Sl w' (fun k => F k ∨ w.heap.size ≤ k) e sz v' (n + 1) (xs ++ cs.toList) → w.grownBy w' v.ownBlock → (∀ g, v'.ownBlock = some g → v.ownBlock = some g ∨ w.heap.size ≤ g) → wpList P ops Q rest (a.put o.dst v') w') : wpList P ops Q (o :: rest) a (w.alloc (.cells cs e)) :=
  wpList_appS T s x hgd ho (hown.alloc _) hs (RdF.lit w cs e 1 sz (by omega)) hx h1 hbytes fun v' w' h2 h3 h4 => h v' w' (h2.to fun k hk => by
      rcases hk with h5 | h5
      · exact .inl h5
      · exact .inr (by simp at h5; omega)) (grownBy_after_alloc h3) (fun g hg => by
      rcases h4 g hg with h5 | h5
      · exact .inl h5
      · exact .inr (by simp at h5; omega))
end
end Go.Lg
namespace Ds
abbrev Bs := List UInt8
structure Pst where
  wr : Bool
  file : Nat
  b : Bs
  len : Nat
structure Dsk where
  off : Bool
  fused : Bool
  fuse : Int
  dur : Nat → Bs
  pend : List Pst
def upd {α : Type} (f : Nat → α) (i : Nat) (a : α) : Nat → α := fun j => if j = i then a else f j
theorem upd_same {α : Type} (f : Nat → α) (i : Nat) (a : α) : upd f i a i = a := if_pos rfl
theorem upd_other {α : Type} (f : Nat → α) {i j : Nat} (a : α) (h : j ≠ i) : upd f i a j = f j := if_neg h
def done (b : Bs) (s : Pst) : Bs := if s.wr then b ++ s.b else b.take s.len
def run (D : Nat → Bs) : List Pst → Nat → Bs
  | [] => D
  | s :: r => run (upd D s.file (done (D s.file) s)) r
def ran (D : Nat → Bs) : List Pst → Prop
  | [] => True
  | s :: r => (s.file < 4 ∧ (if s.wr then 1 ≤ s.b.length ∧ s.b.length ≤ 64 else s.b = [] ∧ s.len ≤ (D s.file).length)) ∧ ran (upd D s.file (done (D s.file) s)) r
theorem run_append (D : Nat → Bs) (a b : List Pst) : run D (a ++ b) = run (run D a) b := by
  induction a generalizing D with
  | nil => rfl
  | cons s a ih => exact ih _
theorem ran_append (D : Nat → Bs) (a b : List Pst) : ran D (a ++ b) ↔ ran D a ∧ ran (run D a) b := by
  induction a generalizing D with
  | nil => simp [ran, run]
  | cons s a ih => simp [ran, run, ih, and_assoc]
structure Dsk.ok (d : Dsk) : Prop where
  fuse : 0 ≤ d.fuse ∧ d.fuse ≤ 9223372036854775807
  ran : ran d.dur d.pend
def Dsk.sz (d : Dsk) : Nat := (d.dur 0).length + (d.dur 1).length + (d.dur 2).length + (d.dur 3).length + 64 * d.pend.length
def tot (D : Nat → Bs) : Nat := (D 0).length + (D 1).length + (D 2).length + (D 3).length
theorem len_le_tot (D : Nat → Bs) {f : Nat} (h : f < 4) : (D f).length ≤ tot D := by
  unfold tot
  obtain rfl | rfl | rfl | rfl : f = 0 ∨ f = 1 ∨ f = 2 ∨ f = 3 := by omega
  all_goals omega
theorem tot_upd (D : Nat → Bs) (b : Bs) {f : Nat} (h : f < 4) : tot (upd D f b) + (D f).length = tot D + b.length := by
  unfold tot upd
  obtain rfl | rfl | rfl | rfl : f = 0 ∨ f = 1 ∨ f = 2 ∨ f = 3 := by omega
  all_goals simp; omega
theorem tot_done {D : Nat → Bs} {s : Pst} {r : List Pst} (h : ran D (s :: r)) : tot (upd D s.file (done (D s.file) s)) ≤ tot D + 64 := by
  obtain ⟨⟨h1, h2⟩, _⟩ := h
  have := tot_upd D (done (D s.file) s) h1
  unfold done at this ⊢
  cases hw : s.wr
  · simp only [hw, Bool.false_eq_true, if_false, List.length_take] at this ⊢
    omega
  · simp only [hw, if_true, List.length_append] at this h2 ⊢
    omega
theorem tot_run : ∀ (p : List Pst) (D : Nat → Bs), ran D p → tot (run D p) ≤ tot D + 64 * p.length
  | [], D, _ => by simp [run]
  | s :: p, D, h => by
    have h1 := tot_done h
    have h2 := tot_run p _ h.2
    simp only [run, List.length_cons]
    omega
def Dsk.held (d : Dsk) (f : Nat) : Bs := run d.dur d.pend f
def Dsk.burn (d : Dsk) : Bool × Dsk := if d.fused then (if d.fuse = 0 then (false, { d with off := true }) else (true, { d with fuse := d.fuse - 1 })) else (true, d)
def Dsk.push (d : Dsk) (s : Pst) : Dsk := { d with pend := d.pend ++ [s] }
def wrN (f : Nat) : Nat → Dsk → Bs → Int × Dsk
  | 0, d, _ => (0, d)
  | n + 1, d, b => if b = [] then (0, d) else if d.burn.1 then wrN f n (d.burn.2.push ⟨true, f, b.take 64, 0⟩) (b.drop 64) else (6, d.burn.2)
def isF (f : Int) : Bool := decide (0 ≤ f ∧ f < 4)
def Dsk.write (d : Dsk) (f : Int) (b : Bs) : Int × Dsk := if d.off then (6, d) else if isF f then wrN f.toNat b.length d b else (2, d)
def Dsk.cut (d : Dsk) (f n : Int) : Int × Dsk :=
  if d.off then (6, d) else if isF f ∧ 0 ≤ n ∧ n ≤ (d.held f.toNat).length then
    (if d.burn.1 then (0, d.burn.2.push ⟨false, f.toNat, [], n.toNat⟩) else (6, d.burn.2)) else (2, d)
def Dsk.settle (d : Dsk) (k : Nat) : Dsk := { d with dur := run d.dur (d.pend.take k), pend := d.pend.drop k }
def Dsk.sync (d : Dsk) : Int × Dsk := if d.off then (6, d) else if d.burn.1 then (0, d.burn.2.settle d.pend.length) else (6, d.burn.2)
def Dsk.read (d : Dsk) (f : Int) : Bs × Int := if d.off then ([], 6) else if isF f then (d.held f.toNat, 0) else ([], 2)
def Dsk.fuse_ (d : Dsk) (n : Int) : Int × Dsk := if d.off then (6, d) else if n < 0 then (2, d) else (0, { d with fused := true, fuse := n })
def Dsk.pull (d : Dsk) : Int × Dsk := if d.off then (6, d) else (0, { d with off := true })
def part (d : Dsk) (t : Int) : Dsk :=
  match d.pend with
  | [] => d
  | s :: _ => if s.wr then { d with dur := upd d.dur s.file (d.dur s.file ++ s.b.take (min t.toNat (s.b.length - 1))) } else d
def Dsk.start (d : Dsk) (k t : Int) : Int × Dsk :=
  if d.off = false ∨ k < 0 ∨ t < 0 then (2, d)
  else (0, { part (d.settle (min k.toNat d.pend.length)) t with off := false, fused := false, fuse := 0, pend := [] })
def New : Dsk := ⟨false, false, 0, fun _ => [], []⟩
theorem Dsk.ok.settle {d : Dsk} (h : d.ok) (k : Nat) : (d.settle k).ok := by
  refine ⟨h.fuse, ?_⟩
  have := h.ran
  rw [← List.take_append_drop k d.pend, ran_append] at this
  exact this.2
theorem Dsk.ok.burn {d : Dsk} (h : d.ok) : d.burn.2.ok := by
  unfold Dsk.burn
  have := h.fuse
  split
  · split
    · exact ⟨h.fuse, h.ran⟩
    · exact ⟨by simp only; omega, h.ran⟩
  · exact h
theorem Dsk.burn_dur (d : Dsk) : d.burn.2.dur = d.dur := by unfold Dsk.burn; split <;> (try split) <;> rfl
theorem Dsk.burn_pend (d : Dsk) : d.burn.2.pend = d.pend := by unfold Dsk.burn; split <;> (try split) <;> rfl
theorem Dsk.burn_sz (d : Dsk) : d.burn.2.sz = d.sz := by simp [Dsk.sz, Dsk.burn_dur, Dsk.burn_pend]
theorem Dsk.ok.push {d : Dsk} (h : d.ok) {s : Pst} (h1 : s.file < 4) (h2 : if s.wr then 1 ≤ s.b.length ∧ s.b.length ≤ 64 else s.b = [] ∧ s.len ≤ (d.held s.file).length) : (d.push s).ok :=
  ⟨h.fuse, (ran_append _ _ _).2 ⟨h.ran, ⟨h1, h2⟩, trivial⟩⟩
theorem Dsk.push_sz (d : Dsk) (s : Pst) : (d.push s).sz = d.sz + 64 := by simp [Dsk.sz, Dsk.push]; omega
end Ds
