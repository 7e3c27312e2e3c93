/- Where epochs start: plain facts on lists of pairs (epoch, first number). No program in sight. -/
set_option linter.unusedVariables false
namespace Sl

def E (l : List (Int × Int)) (i : Nat) : Int := (l.getD i (0, 0)).1
def F (l : List (Int × Int)) (i : Nat) : Int := (l.getD i (0, 0)).2
/-- The pair at place i may be. -/
def good (l : List (Int × Int)) (e : Int) (i : Nat) : Prop :=
  (if i = 0 then 0 else E l (i - 1)) < E l i ∧ E l i ≤ 1048576 ∧ (if i = 0 then 0 else F l (i - 1)) < F l i ∧ F l i ≤ e ∧ (i = 0 → F l i = 1)
instance (l : List (Int × Int)) (e : Int) (i : Nat) : Decidable (good l e i) := by unfold good; infer_instance
def head (l : List (Int × Int)) (e : Int) : Prop := 0 ≤ e ∧ e ≤ 1048576 ∧ (l.length = 0 ↔ e = 0)
instance (l : List (Int × Int)) (e : Int) : Decidable (head l e) := by unfold head; infer_instance
def ok (l : List (Int × Int)) (e : Int) : Prop := head l e ∧ ∀ i, i < l.length → good l e i
instance (l : List (Int × Int)) (e : Int) : Decidable (ok l e) := by unfold ok; infer_instance
def chk (l : List (Int × Int)) (e : Int) : Int := if ok l e then 0 else 5

theorem E_mono {l : List (Int × Int)} {e : Int} (h : ok l e) (i : Nat) : ∀ d, i + d + 1 < l.length → E l i < E l (i + d + 1)
  | 0, hd => by
    have := (h.2 (i + 0 + 1) hd).1
    rw [if_neg (by omega)] at this
    simpa using this
  | d + 1, hd => by
    have h1 := E_mono h i d (by omega)
    have := (h.2 (i + (d + 1) + 1) hd).1
    rw [if_neg (by omega)] at this
    have e1 : i + (d + 1) + 1 - 1 = i + d + 1 := by omega
    rw [e1] at this
    omega
theorem F_mono {l : List (Int × Int)} {e : Int} (h : ok l e) (i : Nat) : ∀ d, i + d + 1 < l.length → F l i < F l (i + d + 1)
  | 0, hd => by
    have := (h.2 (i + 0 + 1) hd).2.2.1
    rw [if_neg (by omega)] at this
    simpa using this
  | d + 1, hd => by
    have h1 := F_mono h i d (by omega)
    have := (h.2 (i + (d + 1) + 1) hd).2.2.1
    rw [if_neg (by omega)] at this
    have e1 : i + (d + 1) + 1 - 1 = i + d + 1 := by omega
    rw [e1] at this
    omega
theorem E_lt {l : List (Int × Int)} {e : Int} (h : ok l e) {i j : Nat} (hij : i < j) (hj : j < l.length) : E l i < E l j := by
  have := E_mono h i (j - i - 1) (by omega)
  rwa [show i + (j - i - 1) + 1 = j by omega] at this
theorem F_lt {l : List (Int × Int)} {e : Int} (h : ok l e) {i j : Nat} (hij : i < j) (hj : j < l.length) : F l i < F l j := by
  have := F_mono h i (j - i - 1) (by omega)
  rwa [show i + (j - i - 1) + 1 = j by omega] at this
theorem F_zero {l : List (Int × Int)} {e : Int} (h : ok l e) (hl : 0 < l.length) : F l 0 = 1 := (h.2 0 hl).2.2.2.2 rfl
theorem F_pos {l : List (Int × Int)} {e : Int} (h : ok l e) {i : Nat} (hi : i < l.length) : 1 ≤ F l i := by
  have h0 := F_zero h (by omega)
  rcases Nat.eq_zero_or_pos i with rfl | hp
  · omega
  · have := F_lt h hp hi
    omega
theorem E_pos {l : List (Int × Int)} {e : Int} (h : ok l e) {i : Nat} (hi : i < l.length) : 1 ≤ E l i := by
  have h0 := (h.2 0 (by omega)).1
  simp at h0
  rcases Nat.eq_zero_or_pos i with rfl | hp
  · omega
  · have := E_lt h hp hi
    omega
theorem F_end {l : List (Int × Int)} {e : Int} (h : ok l e) {i : Nat} (hi : i < l.length) : F l i ≤ e := (h.2 i hi).2.2.2.1

/-- How many starts are at a number or ahead of it. -/
def cnt : List (Int × Int) → Int → Nat
  | [], _ => 0
  | s :: l, n => if s.2 ≤ n then cnt l n + 1 else 0
theorem cnt_le : ∀ (l : List (Int × Int)) (n : Int), cnt l n ≤ l.length
  | [], _ => Nat.le_refl _
  | s :: l, n => by
    have := cnt_le l n
    simp only [cnt]
    split
    · simp; omega
    · simp
theorem cnt_in : ∀ (l : List (Int × Int)) (n : Int) (i : Nat), i < cnt l n → F l i ≤ n
  | [], _, i, h => absurd h (Nat.not_lt_zero _)
  | s :: l, n, i, h => by
    simp only [cnt] at h
    split at h
    · rename_i hs
      cases i with
      | zero => exact hs
      | succ i => exact cnt_in l n i (by omega)
    · exact absurd h (Nat.not_lt_zero _)
theorem cnt_out : ∀ (l : List (Int × Int)) (n : Int), cnt l n < l.length → n < F l (cnt l n)
  | [], _, h => absurd h (Nat.not_lt_zero _)
  | s :: l, n, h => by
    simp only [cnt] at h ⊢
    split at h
    · rename_i hs
      rw [if_pos hs]
      exact cnt_out l n (by simpa using h)
    · rename_i hs
      rw [if_neg hs]
      show n < s.2
      omega
theorem cnt_of {l : List (Int × Int)} {n : Int} {k : Nat} (hk : k ≤ l.length) (h1 : ∀ i, i < k → F l i ≤ n) (h2 : k < l.length → n < F l k) : cnt l n = k := by
  rcases Nat.lt_trichotomy (cnt l n) k with h | h | h
  · have := cnt_out l n (by omega)
    have := h1 _ h
    omega
  · exact h
  · have := cnt_in l n k h
    have := h2 (by have := cnt_le l n; omega)
    omega
/-- The epoch of a number. -/
def epo (l : List (Int × Int)) (i : Nat) : Int := if i = 0 then 0 else E l (i - 1)
def ep (l : List (Int × Int)) (n : Int) : Int := epo l (cnt l n)
/-- Told apart by sorted firsts. -/
theorem cnt_at {l : List (Int × Int)} {e : Int} (h : ok l e) {n : Int} {i : Nat} (hi : i < l.length) (h1 : F l i ≤ n) (h2 : i + 1 < l.length → n < F l (i + 1)) : cnt l n = i + 1 :=
  cnt_of (by omega) (fun j hj => by
    rcases Nat.lt_or_ge j i with hlt | hge
    · have := F_lt h hlt hi
      omega
    · obtain rfl : j = i := by omega
      exact h1) h2
theorem lt_cnt {l : List (Int × Int)} {e : Int} (h : ok l e) {n : Int} {i : Nat} (hi : i < l.length) (h1 : F l i ≤ n) : i < cnt l n := by
  rcases Nat.lt_or_ge i (cnt l n) with h2 | h2
  · exact h2
  · exfalso
    have h3 := cnt_out l n (by omega)
    rcases Nat.lt_or_ge (cnt l n) i with h4 | h4
    · have := F_lt h h4 hi
      omega
    · obtain h5 : cnt l n = i := by omega
      rw [h5] at h3
      omega
theorem cnt_zero {l : List (Int × Int)} {e : Int} (h : ok l e) : cnt l 0 = 0 :=
  cnt_of (Nat.zero_le _) (fun i hi => absurd hi (Nat.not_lt_zero _)) (fun hl => by rw [F_zero h hl]; decide)
theorem ep_zero {l : List (Int × Int)} {e : Int} (h : ok l e) : ep l 0 = 0 := by simp [ep, cnt_zero h, epo]
/-- An epoch changes where a start is. -/
theorem ep_turn {l : List (Int × Int)} {n : Int} (h : ep l n ≠ ep l (n + 1)) : ∃ i, i < l.length ∧ F l i = n + 1 := by
  have hle := cnt_le l n
  have hle1 := cnt_le l (n + 1)
  rcases Nat.lt_trichotomy (cnt l n) (cnt l (n + 1)) with h1 | h1 | h1
  · have h2 := cnt_in l (n + 1) _ h1
    have h3 := cnt_out l n (by omega)
    exact ⟨cnt l n, by omega, by omega⟩
  · exact absurd (by simp [ep, h1]) h
  · exfalso
    have h2 := cnt_in l n _ h1
    have h3 := cnt_out l (n + 1) (by omega)
    omega

/-- Where two logs part. -/
def Fork (a : List (Int × Int)) (ae : Int) (b : List (Int × Int)) (be x : Int) : Prop :=
  0 ≤ x ∧ x ≤ ae ∧ x ≤ be ∧ ep a x = ep b x ∧ ∀ y, x < y → y ≤ ae → y ≤ be → ep a y ≠ ep b y
theorem fork_one {a b : List (Int × Int)} {ae be x y : Int} (h1 : Fork a ae b be x) (h2 : Fork a ae b be y) : x = y := by
  obtain ⟨_, a2, a3, a4, a5⟩ := h1
  obtain ⟨_, b2, b3, b4, b5⟩ := h2
  rcases Int.lt_trichotomy x y with h | h | h
  · exact absurd b4 (a5 y h b2 b3)
  · exact h
  · exact absurd a4 (b5 x h a2 a3)
/-- The best of all places at which an epoch, or a log, ends. -/
theorem fork_best {a b : List (Int × Int)} {ae be x : Int} (h0 : 0 ≤ x) (h1 : x ≤ ae) (h2 : x ≤ be) (h3 : ep a x = ep b x)
    (hc : ∀ y, (y = ae ∨ y = be ∨ (∃ i, i < a.length ∧ y = F a i - 1) ∨ (∃ i, i < b.length ∧ y = F b i - 1)) → y ≤ ae → y ≤ be → ep a y = ep b y → y ≤ x) : Fork a ae b be x := by
  refine ⟨h0, h1, h2, h3, ?_⟩
  have key : ∀ (d : Nat) (y : Int), (ae - y).toNat = d → x < y → y ≤ ae → y ≤ be → ep a y ≠ ep b y := by
    intro d
    induction d with
    | zero =>
      intro y hd hy h4 h5 he
      have := hc y (.inl (by omega)) h4 h5 he
      omega
    | succ d ih =>
      intro y hd hy h4 h5 he
      by_cases hb : y = be
      · have := hc y (.inr (.inl hb)) h4 h5 he
        omega
      · have hn := ih (y + 1) (by omega) (by omega) (by omega) (by omega)
        by_cases ha : ep a y = ep a (y + 1)
        · have hb2 : ep b y ≠ ep b (y + 1) := by
            intro hbb
            exact hn (by rw [← ha, he, hbb])
          obtain ⟨i, hi, hf⟩ := ep_turn hb2
          have := hc y (.inr (.inr (.inr ⟨i, hi, by omega⟩))) h4 h5 he
          omega
        · obtain ⟨i, hi, hf⟩ := ep_turn ha
          have := hc y (.inr (.inr (.inl ⟨i, hi, by omega⟩))) h4 h5 he
          omega
  exact fun y hy h4 h5 => key _ y rfl hy h4 h5

/-- Where a start's epoch ends. -/
def last (l : List (Int × Int)) (e : Int) (i : Nat) : Int := if i + 1 < l.length then F l (i + 1) - 1 else e
theorem last_le {l : List (Int × Int)} {e : Int} (h : ok l e) {i : Nat} : last l e i ≤ e := by
  unfold last
  split
  · rename_i hi
    have := F_end h hi
    omega
  · omega
theorem last_next {l : List (Int × Int)} {e : Int} {i : Nat} (hi : i + 1 < l.length) : last l e i < F l (i + 1) := by
  unfold last
  rw [if_pos hi]
  omega
theorem cnt_last {l : List (Int × Int)} {e n : Int} (h : ok l e) {i : Nat} (hi : i < l.length) (h1 : F l i ≤ n) (h2 : n ≤ last l e i) : cnt l n = i + 1 :=
  cnt_at h hi h1 fun hn => by have := last_next (e := e) hn; omega
theorem le_last {l : List (Int × Int)} {e n : Int} {i : Nat} (hc : cnt l n = i + 1) (hn : n ≤ e) : n ≤ last l e i := by
  unfold last
  split
  · rename_i hi
    have := cnt_out l n (by omega)
    rw [hc] at this
    omega
  · exact hn
/-- Two logs gone through side by side up to the places i, k: the fork so far is f. -/
def Sofar (a : List (Int × Int)) (ae : Int) (b : List (Int × Int)) (be : Int) (i k : Nat) (f : Int) : Prop :=
  0 ≤ f ∧ f ≤ ae ∧ f ≤ be ∧ ep a f = ep b f ∧ (i < a.length → f < F a i) ∧ ∀ y, f < y → y ≤ ae → y ≤ be → ep a y = ep b y → i < cnt a y ∧ k < cnt b y
theorem pos_cnt {l : List (Int × Int)} {e y : Int} (h : ok l e) (h1 : 0 < y) (h2 : y ≤ e) : 0 < cnt l y := by
  have hl : 0 < l.length := by
    have h3 := h.1.2.2
    rcases Nat.eq_zero_or_pos l.length with h0 | h0
    · have := h3.1 h0
      omega
    · exact h0
  exact lt_cnt h hl (by rw [F_zero h hl]; omega)
theorem sofar_start {a b : List (Int × Int)} {ae be : Int} (ha : ok a ae) (hb : ok b be) : Sofar a ae b be 0 0 0 :=
  ⟨Int.le_refl _, ha.1.1, hb.1.1, by rw [ep_zero ha, ep_zero hb], fun hi => by rw [F_zero ha hi]; decide, fun y h1 h2 h3 _ => ⟨pos_cnt ha h1 h2, pos_cnt hb h1 h3⟩⟩
theorem ep_cnt {l : List (Int × Int)} {n : Int} {i : Nat} (h : cnt l n = i + 1) : ep l n = E l i := by
  simp [ep, epo, h]
theorem ep_ge {l : List (Int × Int)} {e n : Int} (h : ok l e) {i : Nat} (hi : i < cnt l n) : E l i ≤ ep l n := by
  have hle := cnt_le l n
  obtain ⟨c, hc⟩ : ∃ c, cnt l n = c + 1 := ⟨cnt l n - 1, by omega⟩
  rw [ep_cnt hc]
  rcases Nat.lt_or_ge i c with h1 | h1
  · have := E_lt h h1 (by omega)
    omega
  · obtain rfl : i = c := by omega
    omega
theorem ep_only {l : List (Int × Int)} {e n : Int} (h : ok l e) {i : Nat} (hi : i < cnt l n) (he : ep l n = E l i) : cnt l n = i + 1 := by
  have hle := cnt_le l n
  obtain ⟨c, hc⟩ : ∃ c, cnt l n = c + 1 := ⟨cnt l n - 1, by omega⟩
  rw [ep_cnt hc] at he
  rcases Nat.lt_or_ge i c with h1 | h1
  · have := E_lt h h1 (by omega)
    omega
  · omega
theorem sofar_left {a b : List (Int × Int)} {ae be f : Int} {i k : Nat} (ha : ok a ae) (hb : ok b be) (hi : i < a.length) (hlt : E a i < E b k) (h : Sofar a ae b be i k f) : Sofar a ae b be (i + 1) k f := by
  obtain ⟨h1, h2, h3, h4, h5, h6⟩ := h
  refine ⟨h1, h2, h3, h4, fun hn => ?_, fun y g1 g2 g3 g4 => ?_⟩
  · have := h5 hi
    have := F_lt ha ((show i < i + 1 by omega)) hn
    omega
  · obtain ⟨q1, q2⟩ := h6 y g1 g2 g3 g4
    refine ⟨?_, q2⟩
    rcases Nat.lt_or_ge (i + 1) (cnt a y) with h7 | h7
    · exact h7
    · exfalso
      have h8 := ep_cnt (show cnt a y = i + 1 by omega)
      have h9 := ep_ge hb q2
      omega
theorem sofar_right {a b : List (Int × Int)} {ae be f : Int} {i k : Nat} (ha : ok a ae) (hb : ok b be) (hlt : E b k < E a i) (h : Sofar a ae b be i k f) : Sofar a ae b be i (k + 1) f := by
  obtain ⟨h1, h2, h3, h4, h5, h6⟩ := h
  refine ⟨h1, h2, h3, h4, h5, fun y g1 g2 g3 g4 => ?_⟩
  obtain ⟨q1, q2⟩ := h6 y g1 g2 g3 g4
  refine ⟨q1, ?_⟩
  rcases Nat.lt_or_ge (k + 1) (cnt b y) with h7 | h7
  · exact h7
  · exfalso
    have h8 := ep_cnt (show cnt b y = k + 1 by omega)
    have h9 := ep_ge ha q1
    omega
theorem sofar_both {a b : List (Int × Int)} {ae be f : Int} {i k : Nat} (ha : ok a ae) (hb : ok b be) (hi : i < a.length) (hk : k < b.length) (he : E a i = E b k) (h : Sofar a ae b be i k f) :
    Sofar a ae b be (i + 1) (k + 1) (if max (F a i) (F b k) ≤ min (last a ae i) (last b be k) then min (last a ae i) (last b be k) else f) := by
  obtain ⟨h1, h2, h3, h4, h5, h6⟩ := h
  have h5 := h5 hi
  have hp := F_pos ha hi
  have key : ∀ y, f < y → y ≤ ae → y ≤ be → ep a y = ep b y → (F a i ≤ y ∧ F b k ≤ y ∧ y ≤ last a ae i ∧ y ≤ last b be k) ∨ (i + 1 < cnt a y ∧ k + 1 < cnt b y) := by
    intro y g1 g2 g3 g4
    obtain ⟨q1, q2⟩ := h6 y g1 g2 g3 g4
    have fa := cnt_in a y i q1
    have fb := cnt_in b y k q2
    by_cases ca : cnt a y = i + 1
    · have e1 := ep_cnt ca
      have cb := ep_only hb q2 (by omega)
      exact .inl ⟨fa, fb, le_last ca g2, le_last cb g3⟩
    · by_cases cb : cnt b y = k + 1
      · have e1 := ep_cnt cb
        exact absurd (ep_only ha q1 (by omega)) ca
      · exact .inr ⟨by omega, by omega⟩
  have la := last_le ha (i := i)
  have lb := last_le hb (i := k)
  split
  · rename_i hr
    have ca := cnt_last ha (n := min (last a ae i) (last b be k)) hi (by omega) (by omega)
    have cb := cnt_last hb (n := min (last a ae i) (last b be k)) hk (by omega) (by omega)
    refine ⟨by omega, by omega, by omega, by rw [ep_cnt ca, ep_cnt cb, he], fun hn => ?_, fun y g1 g2 g3 g4 => ?_⟩
    · have := last_next (e := ae) hn
      omega
    · rcases key y (by omega) g2 g3 g4 with h7 | h7
      · omega
      · exact h7
  · rename_i hr
    refine ⟨h1, h2, h3, h4, fun hn => ?_, fun y g1 g2 g3 g4 => ?_⟩
    · have := F_lt ha ((show i < i + 1 by omega)) hn
      omega
    · rcases key y g1 g2 g3 g4 with h7 | h7
      · omega
      · exact h7
theorem sofar_end {a b : List (Int × Int)} {ae be f : Int} {i k : Nat} (h : Sofar a ae b be i k f) (hd : a.length ≤ i ∨ b.length ≤ k) : Fork a ae b be f := by
  obtain ⟨h1, h2, h3, h4, h5, h6⟩ := h
  refine ⟨h1, h2, h3, h4, fun y g1 g2 g3 g4 => ?_⟩
  obtain ⟨q1, q2⟩ := h6 y g1 g2 g3 g4
  have := cnt_le a y
  have := cnt_le b y
  omega
end Sl
