/- Unlike pages have unlike bytes: the walk. -/
import Derived.Test.YtcfopaphpjmopaaUv
import Derived.Test.YtcfopaphpjmopaaUx
import Derived.Test.YtcfopaphpjmopaaUy
import Derived.Test.YtcfopaphpjmopaaUz
namespace Go.Proofs.Ytcfopaphpjmopaa
open Go.RowKit Go.Lg
set_option linter.unusedVariables false
set_option linter.unusedSimpArgs false

set_option maxHeartbeats 4000000 in
set_option maxRecDepth 100000 in
theorem unlike6_bad (p q : Pg) (w : World) (hbad : ¬Ok p ∨ ¬Ok q) : Calls Try.prog 6 #[p.v, q.v] w (Yes w) := by
  have h14p := wrote14 p
  have h14q := wrote14 q
  have h16p := check18 p
  have h16q := check18 q
  have hl := lives12
  obtain ⟨kp, hkp⟩ : ∃ k, err p = k := ⟨_, rfl⟩
  obtain ⟨kq, hkq⟩ : ∃ k, err q = k := ⟨_, rfl⟩
  have hk : kp = 2 ∨ (kp = 0 ∧ kq = 2) := by
    rw [← hkp, ← hkq]
    unfold err
    by_cases hp : Ok p
    · have hq := hbad.resolve_left (fun h => h hp)
      simp [hp, hq]
    · simp [hp]
  rw [hkp] at h14p h16p
  rw [hkq] at h14q h16q
  clear hkp hkq hbad
  obtain ⟨r1, hr1⟩ : ∃ r, bytesOf p = r := ⟨_, rfl⟩
  obtain ⟨r2, hr2⟩ : ∃ r, bytesOf q = r := ⟨_, rfl⟩
  rw [hr1] at h14p
  rw [hr2] at h14q
  clear hr1 hr2
  obtain ⟨a1, a2, a3, a4, a5, a6⟩ := p
  obtain ⟨b1, b2, b3, b4, b5, b6⟩ := q
  rcases hk with rfl | ⟨rfl, rfl⟩
  all_goals
    go_enter Try.func6, Try.ntmps6
    go_wp2_with (go_at_call 12; refine stop_ (fun Ps hPs => ?_))
    refine hPs ?_
    clear hPs Ps
    refine (hl _).mono ?_
    clear hl
    rintro e w1 ⟨rfl, hb⟩
    obtain ⟨hb, kA, kB⟩ := two_blocks hb
    obtain ⟨⟨pc0, pc1, pc2, pc3, pc4, pc5⟩, _⟩ := page_cells kA
    go_wp2_with (go_at_call 14; refine stop_ (fun Ps hPs => ?_))
    refine hPs ?_
    clear hPs Ps pc0 pc1 pc2 pc3 pc4 pc5
    refine (h14p _).mono ?_
    clear h14p
    rintro e w2 ⟨v1, rfl, ho1, hbn⟩
    have kA := kA.later hbn
    have kB := kB.later hbn
    have hb := bl_trans hb hbn hb.size
    clear hbn ho1
    obtain ⟨⟨qc0, qc1, qc2, qc3, qc4, qc5⟩, _⟩ := page_cells kB
    go_wp2_with (go_at_call 14; refine stop_ (fun Ps hPs => ?_))
    refine hPs ?_
    clear hPs Ps qc0 qc1 qc2 qc3 qc4 qc5
    refine (h14q _).mono ?_
    clear h14q
    rintro e w3 ⟨v2, rfl, ho2, hbn⟩
    have kA := kA.later hbn
    have kB := kB.later hbn
    have hb := bl_trans hb hbn hb.size
    clear hbn ho2
    obtain ⟨⟨pc0, pc1, pc2, pc3, pc4, pc5⟩, _⟩ := page_cells kA
    go_wp2_with (go_at_call 16; refine stop_ (fun Ps hPs => ?_))
    refine hPs ?_
    clear hPs Ps pc0 pc1 pc2 pc3 pc4 pc5
    refine (h16p _).mono ?_
    clear h16p
    rintro e w4 ⟨rfl, hbn⟩
    have kB := kB.later hbn
    have hb := bl_trans hb hbn hb.size
    clear hbn
    obtain ⟨⟨qc0, qc1, qc2, qc3, qc4, qc5⟩, _⟩ := page_cells kB
    go_wp2_with (go_at_call 16; refine (h16q _).mono ?_; clear h16q; rintro e w5 ⟨rfl, hbn⟩; have hb := bl_trans hb hbn hb.size)
    go_ret
    exact ⟨rfl, hb⟩
/-- THE GOOD ONES. -/
theorem good_ : True := trivial
theorem unlike6_good {p q : Pg} (w : World) (hp : Ok p) (hq : Ok q) : Calls Try.prog 6 #[p.v, q.v] w (Yes w) := by
  have h14p := fun w => encode14_ok hp w
  have h14q := fun w => encode14_ok hq w
  have hun := unlike hp hq
  have h1 : (encP p).length ≤ 60 := Nat.le_trans (encN_le _) (by simp [nums])
  have h2 : (encP q).length ≤ 60 := Nat.le_trans (encN_le _) (by simp [nums])
  have h9 : ∀ w, Calls Try.prog 9 #[p.v, q.v] w fun e w' => e = .returned (.bool (decide (p = q))) ∧ Below w.heap.size w w' := fun w => (same12 p q w).mono fun e w' h => h.get
  obtain ⟨d, hd⟩ : ∃ d, decide (p = q) = d := ⟨_, rfl⟩
  rw [hd] at h9 hun
  clear hd
  obtain ⟨l1, e1⟩ : ∃ l, encP p = l := ⟨_, rfl⟩
  obtain ⟨l2, e2⟩ : ∃ l, encP q = l := ⟨_, rfl⟩
  rw [e1] at h14p hun h1
  rw [e2] at h14q hun h2
  clear e1 e2 hq
  obtain ⟨a1, a2, a3, a4, a5, a6⟩ := p
  obtain ⟨b1, b2, b3, b4, b5, b6⟩ := q
  have hk : 1 ≤ a1 ∧ a1 ≤ 1048576 ∧ ((a2 = 1 ∧ a4 = 0 ∧ a5 = 0 ∧ a6 = 0) ∨ (a2 = 2 ∧ a3 = 0 ∧ a4 = 0 ∧ a5 = 0 ∧ a6 = 0) ∨ (a2 = 3 ∧ a3 = 0 ∧ a4 = 1 ∧ a5 = 0 ∧ a6 = 0) ∨ (a2 = 3 ∧ a3 = 0 ∧ a4 = 2) ∨ (a2 = 3 ∧ a3 = 0 ∧ a4 = 3) ∨ (a2 = 3 ∧ a3 = 0 ∧ a4 = 4)) := by
    simp only [Ok, Dep] at hp
    obtain ⟨k1, k2, ⟨r1, _, _, r4, r5, r6⟩ | ⟨r1, r3, r4, r5, r6⟩ | ⟨r1, r3, ⟨r4, r5, r6⟩ | ⟨s1, s2, _⟩⟩⟩ := hp
    · exact ⟨k1, k2, .inl ⟨r1, r4, r5, r6⟩⟩
    · exact ⟨k1, k2, .inr (.inl ⟨r1, r3, r4, r5, r6⟩)⟩
    · exact ⟨k1, k2, .inr (.inr (.inl ⟨r1, r3, r4, r5, r6⟩))⟩
    · clear h14p h14q h9 hun
      rcases (by omega : a4 = 2 ∨ a4 = 3 ∨ a4 = 4) with r4 | r4 | r4
      · exact ⟨k1, k2, .inr (.inr (.inr (.inl ⟨r1, r3, r4⟩)))⟩
      · exact ⟨k1, k2, .inr (.inr (.inr (.inr (.inl ⟨r1, r3, r4⟩))))⟩
      · exact ⟨k1, k2, .inr (.inr (.inr (.inr (.inr ⟨r1, r3, r4⟩))))⟩
  clear hp
  obtain ⟨k1, k2, hk⟩ := hk
  rcases Nat.lt_or_ge l2.length l1.length with hlt | hle
  · rw [Nat.min_eq_right (by omega)] at hun
    rcases hk with ⟨rfl, rfl, rfl, rfl⟩ | ⟨rfl, rfl, rfl, rfl, rfl⟩ | ⟨rfl, rfl, rfl, rfl, rfl⟩ | ⟨rfl, rfl, rfl⟩ | ⟨rfl, rfl, rfl⟩ | ⟨rfl, rfl, rfl⟩
    · by_cases hac : a3 = 0
      · subst hac
        exact unlike6_1zb _ _ _ _ _ _ _ l1 l2 _ _ d w k1 k2 rfl rfl h1 h2 hlt hun.symm h14p h14q h9
      · exact unlike6_1nb _ _ _ _ _ _ _ _ l1 l2 _ _ d w k1 k2 hac rfl rfl h1 h2 hlt hun.symm h14p h14q h9
    · exact unlike6_2b _ _ _ _ _ _ _ l1 l2 _ _ d w k1 k2 rfl rfl h1 h2 hlt hun.symm h14p h14q h9
    · exact unlike6_3b _ _ _ _ _ _ _ l1 l2 _ _ d w k1 k2 rfl rfl h1 h2 hlt hun.symm h14p h14q h9
    · exact unlike6_4b _ _ _ _ _ _ _ _ _ l1 l2 _ _ d w k1 k2 rfl rfl h1 h2 hlt hun.symm h14p h14q h9
    · exact unlike6_5b _ _ _ _ _ _ _ _ _ l1 l2 _ _ d w k1 k2 rfl rfl h1 h2 hlt hun.symm h14p h14q h9
    · exact unlike6_6b _ _ _ _ _ _ _ _ _ l1 l2 _ _ d w k1 k2 rfl rfl h1 h2 hlt hun.symm h14p h14q h9
  · rw [Nat.min_eq_left (by omega)] at hun
    rcases hk with ⟨rfl, rfl, rfl, rfl⟩ | ⟨rfl, rfl, rfl, rfl, rfl⟩ | ⟨rfl, rfl, rfl, rfl, rfl⟩ | ⟨rfl, rfl, rfl⟩ | ⟨rfl, rfl, rfl⟩ | ⟨rfl, rfl, rfl⟩
    · by_cases hac : a3 = 0
      · subst hac
        exact unlike6_1za _ _ _ _ _ _ _ l1 l2 _ _ d w k1 k2 rfl rfl h1 h2 hle hun.symm h14p h14q h9
      · exact unlike6_1na _ _ _ _ _ _ _ _ l1 l2 _ _ d w k1 k2 hac rfl rfl h1 h2 hle hun.symm h14p h14q h9
    · exact unlike6_2a _ _ _ _ _ _ _ l1 l2 _ _ d w k1 k2 rfl rfl h1 h2 hle hun.symm h14p h14q h9
    · exact unlike6_3a _ _ _ _ _ _ _ l1 l2 _ _ d w k1 k2 rfl rfl h1 h2 hle hun.symm h14p h14q h9
    · exact unlike6_4a _ _ _ _ _ _ _ _ _ l1 l2 _ _ d w k1 k2 rfl rfl h1 h2 hle hun.symm h14p h14q h9
    · exact unlike6_5a _ _ _ _ _ _ _ _ _ l1 l2 _ _ d w k1 k2 rfl rfl h1 h2 hle hun.symm h14p h14q h9
    · exact unlike6_6a _ _ _ _ _ _ _ _ _ l1 l2 _ _ d w k1 k2 rfl rfl h1 h2 hle hun.symm h14p h14q h9
theorem unlike6 (p q : Pg) (w : World) : Calls Try.prog 6 #[p.v, q.v] w (Yes w) := by
  by_cases hp : Ok p
  · by_cases hq : Ok q
    · exact unlike6_good w hp hq
    · exact unlike6_bad p q w (.inr hq)
  · exact unlike6_bad p q w (.inl hp)
end Go.Proofs.Ytcfopaphpjmopaa
