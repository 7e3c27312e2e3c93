/- Ops written over. -/
import Derived.Test.YtlbekgephjlffaaCa
namespace Go.Proofs.Ytlbekgephjlffaa
open Go.RowKit Go.Lg
set_option linter.unusedVariables false
set_option linter.unusedSimpArgs false

theorem ne_by_type {w : World} {b b' : Nat} {e e' : TypeId} {sz sz' n n' : Nat} {v v' : Value} {xs xs' : List Value} (h : w.ownsRow b e sz v n xs) (h' : w.ownsRow b' e' sz' v' n' xs') (hne : e ≠ e') :
    ∀ g, v.ownBlock = some g → v'.ownBlock ≠ some g := by
  intro g hg hg'
  rcases h.2 with ⟨rfl, _⟩ | ⟨g1, c1, cur1, rfl, _, h1, _⟩
  · simp [Value.ownBlock] at hg
  rcases h'.2 with ⟨rfl, _⟩ | ⟨g2, c2, cur2, rfl, _, h2, _⟩
  · simp [Value.ownBlock] at hg'
  simp [Value.ownBlock] at hg hg'
  subst hg hg'
  rw [h1] at h2
  injection h2 with h2
  injection h2 with _ h2
  exact hne h2
theorem own_some {w : World} {b : Nat} {e : TypeId} {sz n c : Nat} {A : Option Addr} {xs : List Value} (h : w.ownsRow b e sz (.slice A n c) n xs) (hn : 0 < n ∨ 0 < c) : ∃ g, A = some ⟨g, 0, none⟩ := by
  rcases h.2 with ⟨q, _⟩ | ⟨g1, c1, cur1, q, _⟩
  · simp only [Value.slice.injEq] at q
    omega
  · simp only [Value.slice.injEq] at q
    exact ⟨g1, q.1⟩
def til (o : Op3) : Op3 := ⟨o.put, o.key ++ ⟨#[126]⟩, o.val⟩
def mix (os : List Op3) (f : Nat) : List Op3 := (os.take f).map til ++ os.drop f
theorem mix_split {os : List Op3} {f : Nat} {o : Op3} (h : os[f]? = some o) : mix os f = (os.take f).map til ++ o :: os.drop (f + 1) ∧ mix os (f + 1) = (os.take f).map til ++ til o :: os.drop (f + 1) := by
  have hlt : f < os.length := by
    rcases Nat.lt_or_ge f os.length with q | q
    · exact q
    · rw [List.getElem?_eq_none q] at h; cases h
  rw [List.getElem?_eq_getElem hlt] at h
  have h := Option.some.inj h
  constructor
  · unfold mix
    rw [List.drop_eq_getElem_cons hlt, h]
  · unfold mix
    rw [take_succ_get? (List.getElem?_eq_getElem hlt), h, List.map_append]
    simp
theorem opc_cons (o : Op3) (l : List Op3) : opc (o :: l) = .bool o.put :: .string o.key :: .string o.val :: opc l := rfl
theorem mix_key {os : List Op3} {f : Nat} {o : Op3} (h : os[f]? = some o) (hl : f ≤ os.length) : (opc (mix os f))[f * 3 + 1]? = some (.string o.key) ∧ (opc (mix os f)).set (f * 3 + 1) (.string (o.key ++ ⟨#[126]⟩)) = opc (mix os (f + 1)) := by
  obtain ⟨h1, h2⟩ := mix_split h
  rw [h1, h2, opc_app, opc_app, opc_cons, opc_cons]
  have hk : (opc ((os.take f).map til)).length = f * 3 := by rw [opc_length, List.length_map, List.length_take_of_le hl]
  constructor
  · rw [List.getElem?_append_right (by omega), hk]
    have : f * 3 + 1 - f * 3 = 1 := by omega
    rw [this]
    rfl
  · rw [List.set_append_right _ _ (by omega), hk]
    have : f * 3 + 1 - f * 3 = 1 := by omega
    rw [this]
    rfl
theorem mix_zero (os : List Op3) : mix os 0 = os := by simp [mix]
theorem mix_all (os : List Op3) : mix os os.length = os.map til := by simp [mix]
theorem mix_length (os : List Op3) (f : Nat) (h : f ≤ os.length) : (mix os f).length = os.length := by simp [mix]; omega
def Overs (B : Nat) (A : Option Addr) (n c : Nat) (os : List Op3) (w : World) (e : Ending) (w' : World) : Prop := e = .returned (.tuple #[]) ∧ w'.ownsRow B 43 3 (.slice A n c) n (opc (os.map til)) ∧ w.grownBy w' (Value.slice A n c).ownBlock

set_option maxRecDepth 100000 in
set_option maxHeartbeats 8000000 in
theorem over30 (B : Nat) (A : Option Addr) (n c : Nat) (os : List Op3) (w : World) (h : w.ownsRow B 43 3 (.slice A n c) n (opc os)) (hl : os.length = n) (hn : n ≤ 1000) (hk : ∀ o ∈ os, o.key.size ≤ 1000) : Calls Try.prog 30 #[.slice A n c] w (Overs B A n c os w) := by
  obtain ⟨hnc, hcm⟩ := owned_cap h
  have HL := hid hl
  have HKS := hid hk
  unfold maxLen at hcm
  clear hk
  go_enter Try.func30, Try.ntmps30
  go_wp2_with fail
  go_loopg [3] n (fun k i wr => ∃ f : Nat, f ≤ n ∧ k = n - f ∧ i = .int .i64 f ∧ wr.ownsRow B 43 3 (.slice A n c) n (opc (mix os f)) ∧ w.grownBy wr (Value.slice A n c).ownBlock)
  case atStart => exact ⟨0, by omega, rfl, rfl, by rw [mix_zero]; exact h, World.grownBy.refl _ _⟩
  case round =>
    clear h hl
    obtain ⟨f, hf, rfl, rfl, ho, hg⟩ := hrel
    by_cases hlt : f < n
    · obtain ⟨g, rfl⟩ := own_some ho (Or.inl (by omega))
      obtain ⟨o, hoo⟩ : ∃ o, os[f]? = some o := ⟨os[f]'(by rw [HL.out]; exact hlt), List.getElem?_eq_getElem _⟩
      obtain ⟨m1, m2⟩ := mix_key hoo (by rw [HL.out]; exact hf)
      have hcf := ho.cellAt (f * 3 + 1) (by omega)
      rw [m1] at hcf
      have hff := ho.frozenAt (f * 3 + 1)
      have hfi : (f : Int) < (n : Int) := by omega
      have HO := hid ho
      have HG := hid hg
      have HM := hid m2
      have hsz : ¬9223372036854775807 < o.key.size + 1 := by have := HKS.out o (List.mem_of_getElem? hoo); omega
      clear ho hg m1 m2 hoo
      go_wp2_with fail
      go_roundg (n - (f + 1))
      case measure => omega
      case rel =>
        have hst := HO.out.stored (f * 3 + 1) (.string (o.key ++ ⟨#[126]⟩))
        rw [HM.out] at hst
        exact ⟨f + 1, by omega, rfl, by go_num, hst.1, gb_trans HG.out hst.2⟩
    · obtain rfl : f = n := by omega
      rw [← HL.out, mix_all] at ho
      rw [HL.out] at ho
      have HO := hid ho
      have HG := hid hg
      clear ho hg
      obtain ⟨w3, hw3⟩ : ∃ w3, w3 = wr := ⟨_, rfl⟩
      rw [← hw3] at HO HG ⊢
      clear hw3
      go_wp2_with fail
      go_loopg [0] (c - f) (fun k v wr => ∃ (q : Nat) (xs : List Value), v = .slice A q c ∧ f ≤ q ∧ q ≤ c ∧ k = c - q ∧ wr.ownsRow B 43 3 (.slice A q c) q xs ∧ Hid (xs.take (f * 3) = opc (os.map til)) ∧ w.grownBy wr (Value.slice A f c).ownBlock)
      case atStart => exact ⟨f, _, rfl, Nat.le_refl _, hnc, rfl, HO.out, hid (List.take_of_length_le (by rw [HO.out.1]; exact Nat.le_refl _)), HG.out⟩
      case round =>
        clear HO HG
        obtain ⟨q, xs, rfl, hfq, hq, rfl, ho, htk, hg⟩ := hrel
        by_cases hlt : q < c
        · obtain ⟨g, rfl⟩ := own_some ho (Or.inr (by omega))
          have hqi : (q : Int) < (c : Int) := by omega
          have HO := hid ho
          have HG := hid hg
          clear ho hg
          go_wp2_with (at_builtin; refine stop_ (fun Ps hPs => ?_))
          refine hPs ?_
          clear hPs Ps
          refine wpList_app1_fits T33 (.tmp 26) (.tmp 28) rfl rfl HO.out rfl rfl rfl (by simp [Value.oneCell']) (by omega) fun w5 ho5 hg5 => ?_
          have HO5 := hid ho5
          have HG5 := hid (gb_trans HG.out hg5)
          have ht5 : Hid ((xs ++ (#[.bool false, .string ⟨#[111, 118, 101, 114]⟩, .string ⟨#[]⟩] : Array Value).toList).take (f * 3) = opc (os.map til)) := hid (by
            rw [List.take_append_of_le_length (by rw [HO.out.1]; omega)]
            exact htk.out)
          clear ho5 hg5
          go_wp2_with fail
          go_roundg (c - (q + 1))
          case measure => omega
          case rel => exact ⟨q + 1, _, by go_num, by omega, by omega, rfl, HO5.out, ht5, HG5.out⟩
        · obtain rfl : q = c := by omega
          have hnq : ¬(q : Int) < (q : Int) := by omega
          have hfin : wr.ownsRow B 43 3 (.slice A f q) f (opc (os.map til)) := by
            rcases Nat.eq_zero_or_pos q with h0 | h0
            · subst h0
              obtain rfl : f = 0 := by omega
              have : opc (os.map til) = xs := by
                rw [← htk.out]
                exact (List.take_of_length_le (by rw [ho.1]; exact Nat.le_refl _))
              rw [this]
              exact ho
            · obtain ⟨g, rfl⟩ := own_some ho (Or.inr h0)
              have := owned_prefix ho hfq
              rw [htk.out] at this
              exact this
          have HF := hid hfin
          have HG := hid hg
          clear hfin hg ho
          go_wp2_with fail
          go_end0
          exact ⟨rfl, HF.out, HG.out⟩
end Go.Proofs.Ytlbekgephjlffaa
