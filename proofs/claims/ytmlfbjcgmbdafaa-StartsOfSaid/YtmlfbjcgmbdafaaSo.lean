/- Batches and commits: checking them. -/
import Derived.Test.YtmlfbjcgmbdafaaSn
namespace Go.Proofs.Ytmlfbjcgmbdafaa
open Go.RowKit Go.Lg
set_option linter.unusedVariables false
set_option linter.unusedSimpArgs false

def opc (os : List Op3) : List Value := os.flatMap fun o => [.bool o.put, .string o.key, .string o.val]
theorem opc_get : ∀ (os : List Op3) (j : Nat) (o : Op3), os[j]? = some o → (opc os)[j * 3]? = some (.bool o.put) ∧ (opc os)[j * 3 + 1]? = some (.string o.key) ∧ (opc os)[j * 3 + 2]? = some (.string o.val)
  | [], j, o, h => by simp at h
  | a :: os, 0, o, h => by
    simp at h
    subst h
    exact ⟨rfl, rfl, rfl⟩
  | a :: os, j + 1, o, h => by
    have e1 : opc (a :: os) = [.bool a.put, .string a.key, .string a.val] ++ opc os := rfl
    have e2 : (j + 1) * 3 = j * 3 + 1 + 1 + 1 := by omega
    have h1 := opc_get os j o (by simpa using h)
    rw [e1, e2]
    exact h1
theorem opc_length (os : List Op3) : (opc os).length = os.length * 3 := by
  induction os with
  | nil => rfl
  | cons a l ih =>
    have e1 : opc (a :: l) = [.bool a.put, .string a.key, .string a.val] ++ opc l := rfl
    rw [e1, List.length_append, ih]
    simp
    omega
/-- Ops that are there. -/
def OS (w : World) (B : Nat) (A : Option Addr) (n : Nat) (os : List Op3) : Prop := Rd w B 3 A n (opc os) ∧ os.length = n
theorem OS.keep {w w' : World} {B n : Nat} {A : Option Addr} {os : List Op3} (h : OS w B A n os) (hb : Below B w w') : OS w' B A n os := ⟨h.1.below hb, h.2⟩
theorem OS.more {w : World} {B B' n : Nat} {A : Option Addr} {os : List Op3} (h : OS w B A n os) (hb : B ≤ B') : OS w B' A n os := ⟨h.1.more hb, h.2⟩
theorem OS.at_ {w : World} {B n : Nat} {A : Option Addr} {os : List Op3} {j : Nat} (h : OS w B A n os) (hj : j < n) :
    ∃ b off p k v, A = some ⟨b, off, none⟩ ∧ b < B ∧ os[j]? = some ⟨p, k, v⟩ ∧ w.cell? ⟨b, off + j * 3, none⟩ = some (.bool p) ∧ w.cell? ⟨b, off + j * 3 + 1, none⟩ = some (.string k) ∧ w.cell? ⟨b, off + j * 3 + 2, none⟩ = some (.string v) := by
  obtain ⟨h1, h2⟩ := h
  have ho : os[j]? = some (os[j]'(by omega)) := List.getElem?_eq_getElem _
  obtain ⟨⟨p, k, v⟩, hq⟩ : ∃ o, os[j]'(by omega) = o := ⟨_, rfl⟩
  rw [hq] at ho
  obtain ⟨b, off, rfl, hb, hc⟩ := h1.2 (by omega)
  obtain ⟨g1, g2, g3⟩ := opc_get os j _ ho
  exact ⟨b, off, p, k, v, rfl, hb, ho, hc _ _ g1, by have := hc _ _ g2; rwa [← Nat.add_assoc] at this, by have := hc _ _ g3; rwa [← Nat.add_assoc] at this⟩

/-- What checking a batch tells. -/
def bk (os : List Op3) : Int := if os.length = 0 then 2 else if 8 < os.length then 3 else if ∀ o ∈ os, o.ok then 0 else 2
set_option maxHeartbeats 2000000 in
set_option maxRecDepth 100000 in
theorem batch51 (A : Option Addr) (n c : Nat) (os : List Op3) (w : World) (h : OS w w.heap.size A n os) (hn : n ≤ 9223372036854775807) :
    Calls Try.prog 51 #[.slice A n c] w (Num (bk os) w) := by
  have HL := hid h.2
  by_cases h0 : n = 0
  · have HR : Hid (bk os = 2) := if_pos (by rw [HL.out]; exact h0)
    have q1 : ((n : Int) == 0) = true := by simp [h0]
    clear h0
    go_enter Try.func51, Try.ntmps51
    go_wp2_with fail
    go_ret
    exact num_eq HR.out.symm (Below.refl _ _)
  · have q1 : ((n : Int) == 0) = false := by simp [h0]
    by_cases h8 : 8 < n
    · have HR : Hid (bk os = 3) := by
        unfold bk
        rw [if_neg (by rw [HL.out]; exact h0), if_pos (by rw [HL.out]; exact h8)]
        exact hid rfl
      have q2 : (8 : Int) < (n : Int) := by omega
      clear h0 h8
      go_enter Try.func51, Try.ntmps51
      go_wp2_with fail
      go_ret
      exact num_eq HR.out.symm (Below.refl _ _)
    · have q2 : ¬(8 : Int) < (n : Int) := by omega
      have HR : Hid (bk os = if ∀ o ∈ os, o.ok then 0 else 2) := by
        unfold bk
        rw [if_neg (by rw [HL.out]; exact h0), if_neg (by rw [HL.out]; exact h8)]
        exact hid rfl
      clear h0
      go_enter Try.func51, Try.ntmps51
      go_wp2_with fail
      go_loopg [16] n (fun k i wr => ∃ j : Nat, j ≤ n ∧ k = n - j ∧ i = .int .i64 j ∧ Hid (∀ i o, i < j → os[i]? = some o → o.ok) ∧ Below w.heap.size w wr)
      case atStart => exact ⟨0, by omega, rfl, rfl, hid (fun i o hi => absurd hi (Nat.not_lt_zero _)), Below.refl _ _⟩
      case round =>
        obtain ⟨j, hj, rfl, rfl, hgo, hb⟩ := hrel
        have hsz := hb.size
        by_cases hlt : j < n
        · have hw := h.keep hb
          obtain ⟨b, off, p, k, v, rfl, hbB, ho, c0, c1, c2⟩ := hw.at_ hlt
          have hji : (j : Int) < (n : Int) := by omega
          have hop := opcheck55 ⟨p, k, v⟩ (wr.alloc (.cells #[.bool p, .string k, .string v] 68))
          have hb2 := hb.alloc hsz (.cells #[.bool p, .string k, .string v] 68)
          have HO := hid ho
          have HB2 := hid hb2
          clear ho hw hb hb2
          by_cases hok : (Op3.mk p k v).ok
          · have e1 : opk ⟨p, k, v⟩ = 0 := if_pos hok
            rw [e1] at hop
            have HOK := hid hok
            clear e1 hok
            go_wp2_with (go_at_call 55; refine stop_ (fun Ps hPs => ?_))
            refine hPs ?_
            clear hPs Ps
            refine hop.mono ?_
            clear hop
            rintro e w2 ⟨rfl, hb3⟩
            have hb4 := bl_trans HB2.out hb3 (by simp; omega)
            clear hb3 c0 c1 c2
            go_wp2_with fail
            go_roundg (n - (j + 1))
            case measure => omega
            case rel =>
              refine ⟨j + 1, by omega, rfl, by go_num, hid ?_, hb4⟩
              intro i o hi ho
              rcases Nat.lt_or_ge i j with h9 | h9
              · exact hgo.out i o h9 ho
              · obtain rfl : i = j := by omega
                rw [HO.out] at ho
                obtain rfl := Option.some.inj ho
                exact HOK.out
          · have e1 : opk ⟨p, k, v⟩ = 2 := if_neg hok
            rw [e1] at hop
            have HBAD : Hid (bk os = 2) := by
              rw [HR.out, if_neg fun hall => hok (hall _ (List.mem_of_getElem? HO.out))]
              exact hid rfl
            clear e1 hok
            go_wp2_with (go_at_call 55; refine stop_ (fun Ps hPs => ?_))
            refine hPs ?_
            clear hPs Ps
            refine hop.mono ?_
            clear hop
            rintro e w2 ⟨rfl, hb3⟩
            have hb4 := bl_trans HB2.out hb3 (by simp; omega)
            clear hb3 c0 c1 c2
            go_wp2_with fail
            go_ret
            exact num_eq HBAD.out.symm hb4
        · obtain rfl : j = n := by omega
          have HG : Hid (bk os = 0) := by
            rw [HR.out, if_pos]
            · exact hid rfl
            · intro o ho
              obtain ⟨i, hi, rfl⟩ := List.getElem_of_mem ho
              exact hgo.out i _ (by rw [← HL.out]; exact hi) (List.getElem?_eq_getElem hi)
          go_wp2_with fail
          go_ret
          exact num_eq HG.out.symm hb

theorem rdb {a b : Bool} (h : a = b) : Ending.returned (.bool a) = .returned (.bool b) := by rw [h]
set_option maxHeartbeats 800000 in
set_option maxRecDepth 100000 in
theorem within50 (x : Int) (w : World) : Calls Try.prog 50 #[.int .i64 x] w fun e w' => e = .returned (.bool (decide (1 ≤ x ∧ x ≤ 1048576))) ∧ w' = w := by
  by_cases h : 1 ≤ x ∧ x ≤ 1048576
  · rw [decide_eq_true h]
    obtain ⟨h1, h2⟩ := h
    go_enter Try.func50, Try.ntmps50
    go_wp2_with fail
    go_ret
    exact ⟨rfl, rfl⟩
  · rw [decide_eq_false h]
    have hc : x < 1 ∨ (1 ≤ x ∧ 1048576 < x) := by omega
    clear h
    rcases hc with h1 | ⟨h1, h2⟩
    all_goals
      go_enter Try.func50, Try.ntmps50
      go_wp2_with fail
      go_ret
      exact ⟨rdb (by first | rfl | exact decide_eq_false (by omega)), rfl⟩

/-- A commit: its numbers, its ops' place, its ops. -/
structure Cm where
  ep : Int
  num : Int
  A : Option Addr
  n : Nat
  c : Nat
  os : List Op3
abbrev Cm.v (m : Cm) : Value := .agg #[.int .i64 m.ep, .int .i64 m.num, .slice m.A m.n m.c]
def Cm.in_ (m : Cm) : Prop := (1 ≤ m.ep ∧ m.ep ≤ 1048576) ∧ 1 ≤ m.num ∧ m.num ≤ 1048576
instance (m : Cm) : Decidable m.in_ := by unfold Cm.in_; infer_instance
def Cm.k (m : Cm) : Int := if m.in_ then bk m.os else 2
set_option maxHeartbeats 2000000 in
set_option maxRecDepth 100000 in
theorem commit41 (m : Cm) (w : World) (h : OS w w.heap.size m.A m.n m.os) (hn : m.n ≤ 9223372036854775807) : Calls Try.prog 41 #[m.v] w (Num m.k w) := by
  obtain ⟨ep, num, A, n, c, os⟩ := m
  simp only at h hn
  have hb := (Below.refl w.heap.size w).alloc (Nat.le_refl _) (.cells #[.int .i64 ep, .int .i64 num, .slice A n c] 40)
  have hbt := batch51 A n c os (w.alloc (.cells #[.int .i64 ep, .int .i64 num, .slice A n c] 40)) ((h.keep hb).more (by simp)) hn
  have h1 := within50 ep
  have h2 := within50 num
  by_cases hi : (Cm.mk ep num A n c os).in_
  · have HR : Hid ((Cm.mk ep num A n c os).k = bk os) := if_pos hi
    obtain ⟨i1, i2⟩ := hi
    simp only at i1 i2
    rw [decide_eq_true i1] at h1
    rw [decide_eq_true i2] at h2
    clear i1 i2
    obtain ⟨kk, hkk⟩ : ∃ k, bk os = k := ⟨_, rfl⟩
    rw [hkk] at hbt HR
    clear hkk h
    go_enter Try.func41, Try.ntmps41
    go_wp2_with (go_at_call 50; refine stop_ (fun Ps hPs => ?_))
    refine hPs ?_
    clear hPs Ps
    refine (h1 _).mono ?_
    clear h1
    rintro e w2 ⟨rfl, rfl⟩
    go_wp2_with (go_at_call 50; refine stop_ (fun Ps hPs => ?_))
    refine hPs ?_
    clear hPs Ps
    refine (h2 _).mono ?_
    clear h2
    rintro e w2 ⟨rfl, rfl⟩
    go_wp2_with (go_at_call 51; refine stop_ (fun Ps hPs => ?_))
    refine hPs ?_
    clear hPs Ps
    refine hbt.mono ?_
    clear hbt
    rintro e w2 ⟨rfl, hb2⟩
    have hb3 := bl_trans hb hb2 (by simp)
    go_wp2_with fail
    go_ret
    exact num_eq HR.out.symm hb3
  · have HR : Hid ((Cm.mk ep num A n c os).k = 2) := if_neg hi
    unfold Cm.in_ at hi
    simp only at hi
    clear hbt
    by_cases i1 : 1 ≤ ep ∧ ep ≤ 1048576
    · have i2 : ¬(1 ≤ num ∧ num ≤ 1048576) := fun h => hi ⟨i1, h⟩
      rw [decide_eq_true i1] at h1
      rw [decide_eq_false i2] at h2
      clear hi i1 i2
      go_enter Try.func41, Try.ntmps41
      go_wp2_with (go_at_call 50; refine stop_ (fun Ps hPs => ?_))
      refine hPs ?_
      clear hPs Ps
      refine (h1 _).mono ?_
      clear h1
      rintro e w2 ⟨rfl, rfl⟩
      go_wp2_with (go_at_call 50; refine stop_ (fun Ps hPs => ?_))
      refine hPs ?_
      clear hPs Ps
      refine (h2 _).mono ?_
      clear h2
      rintro e w2 ⟨rfl, rfl⟩
      go_wp2_with fail
      go_ret
      exact num_eq HR.out.symm hb
    · rw [decide_eq_false i1] at h1
      clear hi i1 h2
      go_enter Try.func41, Try.ntmps41
      go_wp2_with (go_at_call 50; refine stop_ (fun Ps hPs => ?_))
      refine hPs ?_
      clear hPs Ps
      refine (h1 _).mono ?_
      clear h1
      rintro e w2 ⟨rfl, rfl⟩
      go_wp2_with fail
      go_ret
      exact num_eq HR.out.symm hb
end Go.Proofs.Ytmlfbjcgmbdafaa
