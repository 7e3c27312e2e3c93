/- Ops, batches: checking, copying, comparing them. -/
import Derived.Test.YtlbekgephjlffaaProg
import Derived.Test.YtlbekgephjlffaaBase
namespace Go.Proofs.Ytlbekgephjlffaa
open Go.RowKit Go.Lg
set_option linter.unusedVariables false
set_option linter.unusedSimpArgs false

def Num (n : Int) (w : World) (e : Ending) (w' : World) : Prop := e = .returned (.int .i64 n) ∧ Below w.heap.size w w'
theorem bl_trans {B : Nat} {a b c : World} (h : Below B a b) (k : Below b.heap.size b c) (hB : B ≤ b.heap.size) : Below B a c :=
  h.trans (k.mono hB)
theorem num_eq {n m : Int} {w w' : World} (h : n = m) (hb : Below w.heap.size w w') : Num m w (.returned (.int .i64 n)) w' := ⟨by rw [h], hb⟩

/-- An op. -/
structure Op3 where
  put : Bool
  key : ByteArray
  val : ByteArray
abbrev Op3.v (o : Op3) : Value := .agg #[.bool o.put, .string o.key, .string o.val]
/-- May an op be? -/
def Op3.ok (o : Op3) : Prop := 1 ≤ o.key.size ∧ o.key.size ≤ 16 ∧ o.val.size ≤ 32 ∧ (o.put = false → o.val.toList.isEmpty = true)
instance (o : Op3) : Decidable o.ok := by unfold Op3.ok; infer_instance
def opk (o : Op3) : Int := if o.ok then 0 else 2

set_option maxHeartbeats 2000000 in
set_option maxRecDepth 100000 in
theorem opcheck38 (o : Op3) (w : World) : Calls Try.prog 38 #[o.v] w (Num (opk o) w) := by
  obtain ⟨p, k, v⟩ := o
  have hb := (Below.refl w.heap.size w).alloc (Nat.le_refl _) (.cells #[.bool p, .string k, .string v] 43)
  by_cases hok : (Op3.mk p k v).ok
  · have HR : Hid (opk ⟨p, k, v⟩ = 0) := if_pos hok
    obtain ⟨h1, h2, h3, h4⟩ := hok
    simp only at h1 h2 h3 h4
    have f1 : ¬(k.size : Int) < 1 := by omega
    have f2 : ¬(16 : Int) < (k.size : Int) := by omega
    have f3 : ¬(32 : Int) < (v.size : Int) := by omega
    cases p with
    | true =>
      clear h4
      go_enter Try.func38, Try.ntmps38
      go_wp2_with fail
      go_ret
      exact num_eq HR.out.symm hb
    | false =>
      have h5 := h4 rfl
      clear h4
      go_enter Try.func38, Try.ntmps38
      go_wp2_with fail
      go_ret
      exact num_eq HR.out.symm hb
  · have HR : Hid (opk ⟨p, k, v⟩ = 2) := if_neg hok
    have hc : (k.size : Int) < 1 ∨ (1 ≤ (k.size : Int) ∧ (16 : Int) < (k.size : Int)) ∨ (1 ≤ (k.size : Int) ∧ (k.size : Int) ≤ 16 ∧ (32 : Int) < (v.size : Int)) ∨ (1 ≤ (k.size : Int) ∧ (k.size : Int) ≤ 16 ∧ (v.size : Int) ≤ 32 ∧ p = false ∧ v.toList.isEmpty = false) := by
      unfold Op3.ok at hok
      simp only at hok
      by_cases hp : p = false
      · by_cases hv : v.toList.isEmpty = true
        · have : ¬(1 ≤ k.size ∧ k.size ≤ 16 ∧ v.size ≤ 32) := fun ⟨a, b, c⟩ => hok ⟨a, b, c, fun _ => hv⟩
          omega
        · have : v.toList.isEmpty = false := by simpa using hv
          simp only [hp, this, and_true]
          omega
      · have : ¬(1 ≤ k.size ∧ k.size ≤ 16 ∧ v.size ≤ 32) := fun ⟨a, b, c⟩ => hok ⟨a, b, c, fun h => absurd h hp⟩
        omega
    clear hok
    rcases hc with g1 | ⟨g1, g2⟩ | ⟨g1, g2, g3⟩ | ⟨g1, g2, g3, rfl, g4⟩
    all_goals
      go_enter Try.func38, Try.ntmps38
      go_wp2_with fail
      go_ret
      exact num_eq HR.out.symm hb
def opc (os : List Op3) : List Value := os.flatMap fun o => [.bool o.put, .string o.key, .string o.val]
theorem opc_get : ∀ (os : List Op3) (j : Nat) (o : Op3), os[j]? = some o → (opc os)[j * 3]? = some (.bool o.put) ∧ (opc os)[j * 3 + 1]? = some (.string o.key) ∧ (opc os)[j * 3 + 2]? = some (.string o.val)
  | [], j, o, h => by simp at h
  | a :: os, 0, o, h => by
    simp at h
    subst h
    exact ⟨rfl, rfl, rfl⟩
  | a :: os, j + 1, o, h => by
    have e1 : opc (a :: os) = [.bool a.put, .string a.key, .string a.val] ++ opc os := rfl
    have e2 : (j + 1) * 3 = j * 3 + 1 + 1 + 1 := by omega
    have h1 := opc_get os j o (by simpa using h)
    rw [e1, e2]
    exact h1
theorem opc_length (os : List Op3) : (opc os).length = os.length * 3 := by
  induction os with
  | nil => rfl
  | cons a l ih =>
    have e1 : opc (a :: l) = [.bool a.put, .string a.key, .string a.val] ++ opc l := rfl
    rw [e1, List.length_append, ih]
    simp
    omega
/-- Ops that are there. -/
def OS (w : World) (B : Nat) (A : Option Addr) (n : Nat) (os : List Op3) : Prop := Rd w B 3 A n (opc os) ∧ os.length = n
theorem OS.keep {w w' : World} {B n : Nat} {A : Option Addr} {os : List Op3} (h : OS w B A n os) (hb : Below B w w') : OS w' B A n os := ⟨h.1.below hb, h.2⟩
theorem OS.more {w : World} {B B' n : Nat} {A : Option Addr} {os : List Op3} (h : OS w B A n os) (hb : B ≤ B') : OS w B' A n os := ⟨h.1.more hb, h.2⟩
theorem OS.at_ {w : World} {B n : Nat} {A : Option Addr} {os : List Op3} {j : Nat} (h : OS w B A n os) (hj : j < n) :
    ∃ b off p k v, A = some ⟨b, off, none⟩ ∧ b < B ∧ os[j]? = some ⟨p, k, v⟩ ∧ w.cell? ⟨b, off + j * 3, none⟩ = some (.bool p) ∧ w.cell? ⟨b, off + j * 3 + 1, none⟩ = some (.string k) ∧ w.cell? ⟨b, off + j * 3 + 2, none⟩ = some (.string v) := by
  obtain ⟨h1, h2⟩ := h
  have ho : os[j]? = some (os[j]'(by omega)) := List.getElem?_eq_getElem _
  obtain ⟨⟨p, k, v⟩, hq⟩ : ∃ o, os[j]'(by omega) = o := ⟨_, rfl⟩
  rw [hq] at ho
  obtain ⟨b, off, rfl, hb, hc⟩ := h1.2 (by omega)
  obtain ⟨g1, g2, g3⟩ := opc_get os j _ ho
  exact ⟨b, off, p, k, v, rfl, hb, ho, hc _ _ g1, by have := hc _ _ g2; rwa [← Nat.add_assoc] at this, by have := hc _ _ g3; rwa [← Nat.add_assoc] at this⟩

/-- What checking a batch tells. -/
def bk (os : List Op3) : Int := if os.length = 0 then 2 else if 8 < os.length then 3 else if ∀ o ∈ os, o.ok then 0 else 2
set_option maxHeartbeats 2000000 in
set_option maxRecDepth 100000 in
theorem batch24 (A : Option Addr) (n c : Nat) (os : List Op3) (w : World) (h : OS w w.heap.size A n os) (hn : n ≤ 9223372036854775807) :
    Calls Try.prog 24 #[.slice A n c] w (Num (bk os) w) := by
  have HL := hid h.2
  by_cases h0 : n = 0
  · have HR : Hid (bk os = 2) := if_pos (by rw [HL.out]; exact h0)
    have q1 : ((n : Int) == 0) = true := by simp [h0]
    clear h0
    go_enter Try.func24, Try.ntmps24
    go_wp2_with fail
    go_ret
    exact num_eq HR.out.symm (Below.refl _ _)
  · have q1 : ((n : Int) == 0) = false := by simp [h0]
    by_cases h8 : 8 < n
    · have HR : Hid (bk os = 3) := by
        unfold bk
        rw [if_neg (by rw [HL.out]; exact h0), if_pos (by rw [HL.out]; exact h8)]
        exact hid rfl
      have q2 : (8 : Int) < (n : Int) := by omega
      clear h0 h8
      go_enter Try.func24, Try.ntmps24
      go_wp2_with fail
      go_ret
      exact num_eq HR.out.symm (Below.refl _ _)
    · have q2 : ¬(8 : Int) < (n : Int) := by omega
      have HR : Hid (bk os = if ∀ o ∈ os, o.ok then 0 else 2) := by
        unfold bk
        rw [if_neg (by rw [HL.out]; exact h0), if_neg (by rw [HL.out]; exact h8)]
        exact hid rfl
      clear h0
      go_enter Try.func24, Try.ntmps24
      go_wp2_with fail
      go_loopg [16] n (fun k i wr => ∃ j : Nat, j ≤ n ∧ k = n - j ∧ i = .int .i64 j ∧ Hid (∀ i o, i < j → os[i]? = some o → o.ok) ∧ Below w.heap.size w wr)
      case atStart => exact ⟨0, by omega, rfl, rfl, hid (fun i o hi => absurd hi (Nat.not_lt_zero _)), Below.refl _ _⟩
      case round =>
        obtain ⟨j, hj, rfl, rfl, hgo, hb⟩ := hrel
        have hsz := hb.size
        by_cases hlt : j < n
        · have hw := h.keep hb
          obtain ⟨b, off, p, k, v, rfl, hbB, ho, c0, c1, c2⟩ := hw.at_ hlt
          have hji : (j : Int) < (n : Int) := by omega
          have hop := opcheck38 ⟨p, k, v⟩ (wr.alloc (.cells #[.bool p, .string k, .string v] 43))
          have hb2 := hb.alloc hsz (.cells #[.bool p, .string k, .string v] 43)
          have HO := hid ho
          have HB2 := hid hb2
          clear ho hw hb hb2
          by_cases hok : (Op3.mk p k v).ok
          · have e1 : opk ⟨p, k, v⟩ = 0 := if_pos hok
            rw [e1] at hop
            have HOK := hid hok
            clear e1 hok
            go_wp2_with (go_at_call 38; refine stop_ (fun Ps hPs => ?_))
            refine hPs ?_
            clear hPs Ps
            refine hop.mono ?_
            clear hop
            rintro e w2 ⟨rfl, hb3⟩
            have hb4 := bl_trans HB2.out hb3 (by simp; omega)
            clear hb3 c0 c1 c2
            go_wp2_with fail
            go_roundg (n - (j + 1))
            case measure => omega
            case rel =>
              refine ⟨j + 1, by omega, rfl, by go_num, hid ?_, hb4⟩
              intro i o hi ho
              rcases Nat.lt_or_ge i j with h9 | h9
              · exact hgo.out i o h9 ho
              · obtain rfl : i = j := by omega
                rw [HO.out] at ho
                obtain rfl := Option.some.inj ho
                exact HOK.out
          · have e1 : opk ⟨p, k, v⟩ = 2 := if_neg hok
            rw [e1] at hop
            have HBAD : Hid (bk os = 2) := by
              rw [HR.out, if_neg fun hall => hok (hall _ (List.mem_of_getElem? HO.out))]
              exact hid rfl
            clear e1 hok
            go_wp2_with (go_at_call 38; refine stop_ (fun Ps hPs => ?_))
            refine hPs ?_
            clear hPs Ps
            refine hop.mono ?_
            clear hop
            rintro e w2 ⟨rfl, hb3⟩
            have hb4 := bl_trans HB2.out hb3 (by simp; omega)
            clear hb3 c0 c1 c2
            go_wp2_with fail
            go_ret
            exact num_eq HBAD.out.symm hb4
        · obtain rfl : j = n := by omega
          have HG : Hid (bk os = 0) := by
            rw [HR.out, if_pos]
            · exact hid rfl
            · intro o ho
              obtain ⟨i, hi, rfl⟩ := List.getElem_of_mem ho
              exact hgo.out i _ (by rw [← HL.out]; exact hi) (List.getElem?_eq_getElem hi)
          go_wp2_with fail
          go_ret
          exact num_eq HG.out.symm hb

set_option maxHeartbeats 2000000 in
set_option maxRecDepth 100000 in
theorem refop42 (o : Op3) (w : World) : Calls Try.prog 42 #[o.v] w (Num (opk o) w) := by
  obtain ⟨p, k, v⟩ := o
  have hb := (Below.refl w.heap.size w).alloc (Nat.le_refl _) (.cells #[.bool p, .string k, .string v] 43)
  by_cases hok : (Op3.mk p k v).ok
  · have HR : Hid (opk ⟨p, k, v⟩ = 0) := if_pos hok
    obtain ⟨h1, h2, h3, h4⟩ := hok
    simp only at h1 h2 h3 h4
    have f1 : ¬(k.size : Int) < 1 := by omega
    have f2 : ¬(16 : Int) < (k.size : Int) := by omega
    have f3 : ¬(32 : Int) < (v.size : Int) := by omega
    cases p with
    | true =>
      clear h4
      go_enter Try.func42, Try.ntmps42
      go_wp2_with fail
      go_ret
      exact num_eq HR.out.symm hb
    | false =>
      have h5 := h4 rfl
      clear h4
      go_enter Try.func42, Try.ntmps42
      go_wp2_with fail
      go_ret
      exact num_eq HR.out.symm hb
  · have HR : Hid (opk ⟨p, k, v⟩ = 2) := if_neg hok
    have hc : (k.size : Int) < 1 ∨ (1 ≤ (k.size : Int) ∧ (16 : Int) < (k.size : Int)) ∨ (1 ≤ (k.size : Int) ∧ (k.size : Int) ≤ 16 ∧ (32 : Int) < (v.size : Int)) ∨ (1 ≤ (k.size : Int) ∧ (k.size : Int) ≤ 16 ∧ (v.size : Int) ≤ 32 ∧ p = false ∧ v.toList.isEmpty = false) := by
      unfold Op3.ok at hok
      simp only at hok
      by_cases hp : p = false
      · by_cases hv : v.toList.isEmpty = true
        · have : ¬(1 ≤ k.size ∧ k.size ≤ 16 ∧ v.size ≤ 32) := fun ⟨a, b, c⟩ => hok ⟨a, b, c, fun _ => hv⟩
          omega
        · have : v.toList.isEmpty = false := by simpa using hv
          simp only [hp, this, and_true]
          omega
      · have : ¬(1 ≤ k.size ∧ k.size ≤ 16 ∧ v.size ≤ 32) := fun ⟨a, b, c⟩ => hok ⟨a, b, c, fun h => absurd h hp⟩
        omega
    clear hok
    rcases hc with g1 | ⟨g1, g2⟩ | ⟨g1, g2, g3⟩ | ⟨g1, g2, g3, rfl, g4⟩
    all_goals
      go_enter Try.func42, Try.ntmps42
      go_wp2_with fail
      go_ret
      exact num_eq HR.out.symm hb
theorem T33 : SlT Try.prog 33 43 3 40 := SlT.mk' (.agg #[.bool false, .string ⟨#[]⟩, .string ⟨#[]⟩]) Try.underlying33 (by kernel_rfl) rfl (by decide) (by decide)
theorem opc_one (os : List Op3) : ∀ u ∈ opc os, u.oneCell' = true := by
  intro u hu
  simp only [opc, List.mem_flatMap] at hu
  obtain ⟨s, _, hu⟩ := hu
  simp at hu
  rcases hu with rfl | rfl | rfl <;> rfl
def NewO (os : List Op3) (n : Nat) (w : World) (e : Ending) (w' : World) : Prop := ∃ v, e = .returned v ∧ w'.ownsRow w.heap.size 43 3 v n (opc os) ∧ Below w.heap.size w w'
theorem newo_eq {os : List Op3} {n : Nat} {v : Value} {w w' : World} (ho : w'.ownsRow w.heap.size 43 3 v n (opc os)) (hb : Below w.heap.size w w') : NewO os n w (.returned v) w' := ⟨v, rfl, ho, hb⟩
set_option maxHeartbeats 1000000 in
set_option maxRecDepth 100000 in
theorem copyops29 (A : Option Addr) (n c : Nat) (os : List Op3) (w : World) (h : OS w w.heap.size A n os) (hn : n ≤ 3518437208790) :
    Calls Try.prog 29 #[.slice A n c] w (NewO os n w) := by
  go_enter Try.func29, Try.ntmps29
  go_wp2_with (at_builtin; refine stop_ (fun Ps hPs => ?_))
  refine hPs ?_
  clear hPs Ps
  refine wpList_app T33 (.tmp 3) (.tmp 4) rfl rfl (World.ownsRow_lit w #[] 0 (Nat.le_refl _) (Nat.zero_le _) rfl) rfl (h.1.alloc (Nat.le_refl _) _) rfl (opc_one os) (by omega) (by simp) fun v1 w1 hown hg hat => ?_
  have hb : Below w.heap.size w w1 := ((Below.refl _ _).alloc (Nat.le_refl _) _).grown hg (by simp) (by intro k hk; simp [Value.ownBlock] at hk; omega)
  have HO := hid hown
  clear hown hg hat
  go_wp2_with fail
  go_ret
  exact newo_eq (by simpa using HO.out) hb
set_option maxHeartbeats 2000000 in
set_option maxRecDepth 100000 in
theorem same15 (A A' : Option Addr) (n c c' B B' : Nat) (os : List Op3) (w : World) (h : OS w B A n os) (h' : OS w B' A' n os) (hn : n ≤ 140737488355328) :
    Calls Try.prog 15 #[.slice A n c, .slice A' n c'] w fun e w' => e = .returned (.bool true) ∧ ∃ d, w' = w.drewN d := by
  go_enter Try.func15, Try.ntmps15
  go_wp2_with fail
  go_loopg [5] n (fun k i wr => ∃ (j d : Nat), j ≤ n ∧ k = n - j ∧ i = .int .i64 j ∧ wr = w.drewN d)
  case atStart => exact ⟨0, 0, by omega, rfl, rfl, rfl⟩
  case round =>
    obtain ⟨j, d, hj, rfl, rfl, hwr⟩ := hrel
    have hs : OS wr B A n os := by rw [hwr]; exact ⟨h.1.drewN d, h.2⟩
    have hs' : OS wr B' A' n os := by rw [hwr]; exact ⟨h'.1.drewN d, h'.2⟩
    have HW := hid hwr
    clear hwr
    by_cases hlt : j < n
    · obtain ⟨b, off, p, k, v, rfl, hbB, ho, c0, c1, c2⟩ := hs.at_ hlt
      obtain ⟨b2, off2, p', k', v', rfl, hbB2, ho', d0, d1, d2⟩ := hs'.at_ hlt
      rw [ho] at ho'
      simp only [Option.some.injEq, Op3.mk.injEq] at ho'
      obtain ⟨rfl, rfl, rfl⟩ := ho'
      have hji : (j : Int) < (n : Int) := by omega
      clear ho hs hs' h h'
      go_wp2_with fail
      go_quiet (fail)
      go_wp2_with fail
      go_roundg (n - (j + 1))
      case measure => omega
      case rel =>
        exact ⟨j + 1, d + nq, by omega, rfl, by go_num, by rw [HW.out, World.drewN_drewN]⟩
    · obtain rfl : j = n := by omega
      go_wp2_with fail
      go_ret
      exact ⟨rfl, d, HW.out⟩

theorem opc_app (a b : List Op3) : opc (a ++ b) = opc a ++ opc b := by simp [opc]
end Go.Proofs.Ytlbekgephjlffaa
