/- A primary answers without waiting for the other site, as many times as its leash allows: of any acts. No condition. (part 4) -/
import Derived.Test.YtbpnbcjgkbpmgaaGreatMAc
namespace Go.Proofs.YtbpnbcjgkbpmgaaGreat.St
open Go.RowKit Go.Lg
set_option linter.unusedVariables false
set_option linter.unusedSimpArgs false
def opc (os : List Op3) : List Value := os.flatMap fun o => [.bool o.put, .string o.key, .string o.val]
theorem opc_get : ∀ (os : List Op3) (j : Nat) (o : Op3), os[j]? = some o → (opc os)[j * 3]? = some (.bool o.put) ∧ (opc os)[j * 3 + 1]? = some (.string o.key) ∧ (opc os)[j * 3 + 2]? = some (.string o.val)
  | [], j, o, h => by simp at h
  | a :: os, 0, o, h => by
    simp at h
    subst h
    exact ⟨rfl, rfl, rfl⟩
  | a :: os, j + 1, o, h => by
    have e1 : opc (a :: os) = [.bool a.put, .string a.key, .string a.val] ++ opc os := rfl
    have e2 : (j + 1) * 3 = j * 3 + 1 + 1 + 1 := by omega
    have h1 := opc_get os j o (by simpa using h)
    rw [e1, e2]
    exact h1
def OS (w : World) (B : Nat) (A : Option Addr) (n : Nat) (os : List Op3) : Prop := Rd w B 3 A n (opc os) ∧ os.length = n
theorem OS.keep {w w' : World} {B n : Nat} {A : Option Addr} {os : List Op3} (h : OS w B A n os) (hb : Below B w w') : OS w' B A n os := ⟨h.1.below hb, h.2⟩
theorem OS.more {w : World} {B B' n : Nat} {A : Option Addr} {os : List Op3} (h : OS w B A n os) (hb : B ≤ B') : OS w B' A n os := ⟨h.1.more hb, h.2⟩
theorem OS.at_ {w : World} {B n : Nat} {A : Option Addr} {os : List Op3} {j : Nat} (h : OS w B A n os) (hj : j < n) :
    ∃ b off p k v, A = some ⟨b, off, none⟩ ∧ b < B ∧ os[j]? = some ⟨p, k, v⟩ ∧ w.cell? ⟨b, off + j * 3, none⟩ = some (.bool p) ∧ w.cell? ⟨b, off + j * 3 + 1, none⟩ = some (.string k) ∧ w.cell? ⟨b, off + j * 3 + 2, none⟩ = some (.string v) := by
  obtain ⟨h1, h2⟩ := h
  have ho : os[j]? = some (os[j]'(by omega)) := List.getElem?_eq_getElem _
  obtain ⟨⟨p, k, v⟩, hq⟩ : ∃ o, os[j]'(by omega) = o := ⟨_, rfl⟩
  rw [hq] at ho
  obtain ⟨b, off, rfl, hb, hc⟩ := h1.2 (by omega)
  obtain ⟨g1, g2, g3⟩ := opc_get os j _ ho
  exact ⟨b, off, p, k, v, rfl, hb, ho, hc _ _ g1, by have := hc _ _ g2; rwa [← Nat.add_assoc] at this, by have := hc _ _ g3; rwa [← Nat.add_assoc] at this⟩
def bk (os : List Op3) : Int := if os.length = 0 then 2 else if 8 < os.length then 3 else if ∀ o ∈ os, o.ok then 0 else 2
set_option maxHeartbeats 2000000 in
set_option maxRecDepth 100000 in
theorem batch51 (A : Option Addr) (n c : Nat) (os : List Op3) (w : World) (h : OS w w.heap.size A n os) (hn : n ≤ 9223372036854775807) :
    Calls Tryz.prog 147 #[.slice A n c] w (Num (bk os) w) := by
  have HL := hid h.2
  by_cases h0 : n = 0
  · have HR : Hid (bk os = 2) := if_pos (by rw [HL.out]; exact h0)
    have q1 : ((n : Int) == 0) = true := by simp [h0]
    clear h0
    go_enter Tryz.func147, Tryz.ntmps147
    go_wp2_with fail
    go_ret
    exact num_eq HR.out.symm (Below.refl _ _)
  · have q1 : ((n : Int) == 0) = false := by simp [h0]
    by_cases h8 : 8 < n
    · have HR : Hid (bk os = 3) := by
        unfold bk
        rw [if_neg (by rw [HL.out]; exact h0), if_pos (by rw [HL.out]; exact h8)]
        exact hid rfl
      have q2 : (8 : Int) < (n : Int) := by omega
      clear h0 h8
      go_enter Tryz.func147, Tryz.ntmps147
      go_wp2_with fail
      go_ret
      exact num_eq HR.out.symm (Below.refl _ _)
    · have q2 : ¬(8 : Int) < (n : Int) := by omega
      have HR : Hid (bk os = if ∀ o ∈ os, o.ok then 0 else 2) := by
        unfold bk
        rw [if_neg (by rw [HL.out]; exact h0), if_neg (by rw [HL.out]; exact h8)]
        exact hid rfl
      clear h0
      go_enter Tryz.func147, Tryz.ntmps147
      go_wp2_with fail
      go_loopg [16] n (fun k i wr => ∃ j : Nat, j ≤ n ∧ k = n - j ∧ i = .int .i64 j ∧ Hid (∀ i o, i < j → os[i]? = some o → o.ok) ∧ Below w.heap.size w wr)
      case atStart => exact ⟨0, by omega, rfl, rfl, hid (fun i o hi => absurd hi (Nat.not_lt_zero _)), Below.refl _ _⟩
      case round =>
        obtain ⟨j, hj, rfl, rfl, hgo, hb⟩ := hrel
        have hsz := hb.size
        by_cases hlt : j < n
        · have hw := h.keep hb
          obtain ⟨b, off, p, k, v, rfl, hbB, ho, c0, c1, c2⟩ := hw.at_ hlt
          have hji : (j : Int) < (n : Int) := by omega
          have hop := opcheck55 ⟨p, k, v⟩ (wr.alloc (.cells #[.bool p, .string k, .string v] 77))
          have hb2 := hb.alloc hsz (.cells #[.bool p, .string k, .string v] 77)
          have HO := hid ho
          have HB2 := hid hb2
          clear ho hw hb hb2
          by_cases hok : (Op3.mk p k v).ok
          · have e1 : opk ⟨p, k, v⟩ = 0 := if_pos hok
            rw [e1] at hop
            have HOK := hid hok
            clear e1 hok
            go_wp2_with (go_at_call 70; refine stop_ (fun Ps hPs => ?_))
            refine hPs ?_
            clear hPs Ps
            refine hop.mono ?_
            clear hop
            rintro e w2 ⟨rfl, hb3⟩
            have hb4 := bl_trans HB2.out hb3 (by simp; omega)
            clear hb3 c0 c1 c2
            go_wp2_with fail
            go_roundg (n - (j + 1))
            case measure => omega
            case rel =>
              refine ⟨j + 1, by omega, rfl, by go_num, hid ?_, hb4⟩
              intro i o hi ho
              rcases Nat.lt_or_ge i j with h9 | h9
              · exact hgo.out i o h9 ho
              · obtain rfl : i = j := by omega
                rw [HO.out] at ho
                obtain rfl := Option.some.inj ho
                exact HOK.out
          · have e1 : opk ⟨p, k, v⟩ = 2 := if_neg hok
            rw [e1] at hop
            have HBAD : Hid (bk os = 2) := by
              rw [HR.out, if_neg fun hall => hok (hall _ (List.mem_of_getElem? HO.out))]
              exact hid rfl
            clear e1 hok
            go_wp2_with (go_at_call 70; refine stop_ (fun Ps hPs => ?_))
            refine hPs ?_
            clear hPs Ps
            refine hop.mono ?_
            clear hop
            rintro e w2 ⟨rfl, hb3⟩
            have hb4 := bl_trans HB2.out hb3 (by simp; omega)
            clear hb3 c0 c1 c2
            go_wp2_with fail
            go_ret
            exact num_eq HBAD.out.symm hb4
        · obtain rfl : j = n := by omega
          have HG : Hid (bk os = 0) := by
            rw [HR.out, if_pos]
            · exact hid rfl
            · intro o ho
              obtain ⟨i, hi, rfl⟩ := List.getElem_of_mem ho
              exact hgo.out i _ (by rw [← HL.out]; exact hi) (List.getElem?_eq_getElem hi)
          go_wp2_with fail
          go_ret
          exact num_eq HG.out.symm hb
theorem rdb {a b : Bool} (h : a = b) : Ending.returned (.bool a) = .returned (.bool b) := by rw [h]
set_option maxHeartbeats 800000 in
set_option maxRecDepth 100000 in
theorem within50 (x : Int) (w : World) : Calls Tryz.prog 199 #[.int .i64 x] w fun e w' => e = .returned (.bool (decide (1 ≤ x ∧ x ≤ 1048576))) ∧ w' = w := by
  by_cases h : 1 ≤ x ∧ x ≤ 1048576
  · rw [decide_eq_true h]
    obtain ⟨h1, h2⟩ := h
    go_enter Tryz.func199, Tryz.ntmps199
    go_wp2_with fail
    go_ret
    exact ⟨rfl, rfl⟩
  · rw [decide_eq_false h]
    have hc : x < 1 ∨ (1 ≤ x ∧ 1048576 < x) := by omega
    clear h
    rcases hc with h1 | ⟨h1, h2⟩
    all_goals
      go_enter Tryz.func199, Tryz.ntmps199
      go_wp2_with fail
      go_ret
      exact ⟨rdb (by first | rfl | exact decide_eq_false (by omega)), rfl⟩
structure Cm where
  ep : Int
  num : Int
  A : Option Addr
  n : Nat
  c : Nat
  os : List Op3
abbrev Cm.v (m : Cm) : Value := .agg #[.int .i64 m.ep, .int .i64 m.num, .slice m.A m.n m.c]
def Cm.in_ (m : Cm) : Prop := (1 ≤ m.ep ∧ m.ep ≤ 1048576) ∧ 1 ≤ m.num ∧ m.num ≤ 1048576
instance (m : Cm) : Decidable m.in_ := by unfold Cm.in_; infer_instance
def Cm.k (m : Cm) : Int := if m.in_ then bk m.os else 2
set_option maxHeartbeats 2000000 in
set_option maxRecDepth 100000 in
theorem commit41 (m : Cm) (w : World) (h : OS w w.heap.size m.A m.n m.os) (hn : m.n ≤ 9223372036854775807) : Calls Tryz.prog 161 #[m.v] w (Num m.k w) := by
  obtain ⟨ep, num, A, n, c, os⟩ := m
  simp only at h hn
  have hb := (Below.refl w.heap.size w).alloc (Nat.le_refl _) (.cells #[.int .i64 ep, .int .i64 num, .slice A n c] 88)
  have hbt := batch51 A n c os (w.alloc (.cells #[.int .i64 ep, .int .i64 num, .slice A n c] 88)) ((h.keep hb).more (by simp)) hn
  have h1 := within50 ep
  have h2 := within50 num
  by_cases hi : (Cm.mk ep num A n c os).in_
  · have HR : Hid ((Cm.mk ep num A n c os).k = bk os) := if_pos hi
    obtain ⟨i1, i2⟩ := hi
    simp only at i1 i2
    rw [decide_eq_true i1] at h1
    rw [decide_eq_true i2] at h2
    clear i1 i2
    obtain ⟨kk, hkk⟩ : ∃ k, bk os = k := ⟨_, rfl⟩
    rw [hkk] at hbt HR
    clear hkk h
    go_enter Tryz.func161, Tryz.ntmps161
    go_wp2_with (go_at_call 199; refine stop_ (fun Ps hPs => ?_))
    refine hPs ?_
    clear hPs Ps
    refine (h1 _).mono ?_
    clear h1
    rintro e w2 ⟨rfl, rfl⟩
    go_wp2_with (go_at_call 199; refine stop_ (fun Ps hPs => ?_))
    refine hPs ?_
    clear hPs Ps
    refine (h2 _).mono ?_
    clear h2
    rintro e w2 ⟨rfl, rfl⟩
    go_wp2_with (go_at_call 147; refine stop_ (fun Ps hPs => ?_))
    refine hPs ?_
    clear hPs Ps
    refine hbt.mono ?_
    clear hbt
    rintro e w2 ⟨rfl, hb2⟩
    have hb3 := bl_trans hb hb2 (by simp)
    go_wp2_with fail
    go_ret
    exact num_eq HR.out.symm hb3
  · have HR : Hid ((Cm.mk ep num A n c os).k = 2) := if_neg hi
    unfold Cm.in_ at hi
    simp only at hi
    clear hbt
    by_cases i1 : 1 ≤ ep ∧ ep ≤ 1048576
    · have i2 : ¬(1 ≤ num ∧ num ≤ 1048576) := fun h => hi ⟨i1, h⟩
      rw [decide_eq_true i1] at h1
      rw [decide_eq_false i2] at h2
      clear hi i1 i2
      go_enter Tryz.func161, Tryz.ntmps161
      go_wp2_with (go_at_call 199; refine stop_ (fun Ps hPs => ?_))
      refine hPs ?_
      clear hPs Ps
      refine (h1 _).mono ?_
      clear h1
      rintro e w2 ⟨rfl, rfl⟩
      go_wp2_with (go_at_call 199; refine stop_ (fun Ps hPs => ?_))
      refine hPs ?_
      clear hPs Ps
      refine (h2 _).mono ?_
      clear h2
      rintro e w2 ⟨rfl, rfl⟩
      go_wp2_with fail
      go_ret
      exact num_eq HR.out.symm hb
    · rw [decide_eq_false i1] at h1
      clear hi i1 h2
      go_enter Tryz.func161, Tryz.ntmps161
      go_wp2_with (go_at_call 199; refine stop_ (fun Ps hPs => ?_))
      refine hPs ?_
      clear hPs Ps
      refine (h1 _).mono ?_
      clear h1
      rintro e w2 ⟨rfl, rfl⟩
      go_wp2_with fail
      go_ret
      exact num_eq HR.out.symm hb
end Go.Proofs.YtbpnbcjgkbpmgaaGreat.St
namespace Go.Proofs.YtbpnbcjgkbpmgaaGreat.St
open Go.RowKit Go.Lg
set_option linter.unusedVariables false
set_option linter.unusedSimpArgs false
def cmc (cs : List Cm) : List Value := cs.flatMap fun m => [.int .i64 m.ep, .int .i64 m.num, .slice m.A m.n m.c]
theorem cmc_get : ∀ (cs : List Cm) (j : Nat) (m : Cm), cs[j]? = some m → (cmc cs)[j * 3]? = some (.int .i64 m.ep) ∧ (cmc cs)[j * 3 + 1]? = some (.int .i64 m.num) ∧ (cmc cs)[j * 3 + 2]? = some (.slice m.A m.n m.c)
  | [], j, o, h => by simp at h
  | a :: cs, 0, o, h => by
    simp at h
    subst h
    exact ⟨rfl, rfl, rfl⟩
  | a :: cs, j + 1, o, h => by
    have e1 : cmc (a :: cs) = [.int .i64 a.ep, .int .i64 a.num, .slice a.A a.n a.c] ++ cmc cs := rfl
    have e2 : (j + 1) * 3 = j * 3 + 1 + 1 + 1 := by omega
    have h1 := cmc_get cs j o (by simpa using h)
    rw [e1, e2]
    exact h1
def CS (w : World) (B : Nat) (A : Option Addr) (n : Nat) (cs : List Cm) : Prop := Rd w B 3 A n (cmc cs) ∧ cs.length = n ∧ ∀ m ∈ cs, OS w B m.A m.n m.os ∧ m.n ≤ 9223372036854775807
theorem CS.keep {w w' : World} {B n : Nat} {A : Option Addr} {cs : List Cm} (h : CS w B A n cs) (hb : Below B w w') : CS w' B A n cs := ⟨h.1.below hb, h.2.1, fun m hm => ⟨(h.2.2 m hm).1.keep hb, (h.2.2 m hm).2⟩⟩
theorem CS.more {w : World} {B B' n : Nat} {A : Option Addr} {cs : List Cm} (h : CS w B A n cs) (hb : B ≤ B') : CS w B' A n cs := ⟨h.1.more hb, h.2.1, fun m hm => ⟨(h.2.2 m hm).1.more hb, (h.2.2 m hm).2⟩⟩
theorem CS.at_ {w : World} {B n : Nat} {A : Option Addr} {cs : List Cm} {j : Nat} (h : CS w B A n cs) (hj : j < n) :
    ∃ b off ep num Ao no co os, A = some ⟨b, off, none⟩ ∧ b < B ∧ cs[j]? = some ⟨ep, num, Ao, no, co, os⟩ ∧ OS w B Ao no os ∧ no ≤ 9223372036854775807 ∧ w.cell? ⟨b, off + j * 3, none⟩ = some (.int .i64 ep) ∧ w.cell? ⟨b, off + j * 3 + 1, none⟩ = some (.int .i64 num) ∧ w.cell? ⟨b, off + j * 3 + 2, none⟩ = some (.slice Ao no co) := by
  obtain ⟨h1, h2, h3⟩ := h
  have ho : cs[j]? = some (cs[j]'(by omega)) := List.getElem?_eq_getElem _
  obtain ⟨⟨ep, num, Ao, no, co, os⟩, hq⟩ : ∃ o, cs[j]'(by omega) = o := ⟨_, rfl⟩
  rw [hq] at ho
  obtain ⟨b, off, rfl, hb, hc⟩ := h1.2 (by omega)
  obtain ⟨g1, g2, g3⟩ := cmc_get cs j _ ho
  obtain ⟨k1, k2⟩ := h3 _ (List.mem_of_getElem? ho)
  exact ⟨b, off, ep, num, Ao, no, co, os, rfl, hb, ho, k1, k2, hc _ _ g1, by have := hc _ _ g2; rwa [← Nat.add_assoc] at this, by have := hc _ _ g3; rwa [← Nat.add_assoc] at this⟩
def fol : Int → Int → Nat → List Cm → Int × Nat
  | _, _, _, [] => (0, 0)
  | ep, num, i, m :: r => if m.k ≠ 0 then (m.k, i) else if m.num - 1 ≠ num ∨ m.ep < ep then (15, i) else fol m.ep m.num (i + 1) r
def Folds (r : Int × Nat) (w : World) (e : Ending) (w' : World) : Prop := e = .returned (.agg #[.int .i64 r.1, .int .i64 r.2]) ∧ Below w.heap.size w w'
theorem folds_eq {r : Int × Nat} {a : Int} {b : Nat} {w w' : World} (h : r = (a, b)) (hb : Below w.heap.size w w') : Folds r w (.returned (.agg #[.int .i64 a, .int .i64 (b : Nat)])) w' := by
  subst h
  exact ⟨rfl, hb⟩
theorem below_two {w0 w : World} {B b : Nat} (h : Below B w0 w) (hb : B ≤ b) (x y : Value) : Below B w0 ((w.setCell ⟨b, 0, none⟩ x).setCell ⟨b, 1, none⟩ y) :=
  (h.setCell (p := ⟨b, 0, none⟩) hb x).setCell (p := ⟨b, 1, none⟩) hb y
set_option maxHeartbeats 4000000 in
set_option maxRecDepth 100000 in
theorem follows37 (A : Option Addr) (n c : Nat) (cs : List Cm) (ep0 num0 : Int) (w : World) (h : CS w w.heap.size A n cs) (hn : n ≤ 9223372036854775807) :
    Calls Tryz.prog 112 #[.int .i64 ep0, .int .i64 num0, .slice A n c] w (Folds (fol ep0 num0 0 cs) w) := by
  have HL := hid h.2.1
  have kz := Blk.new w 190 #[.int .i64 0, .int .i64 0]
  have hb := (Below.refl w.heap.size w).alloc (Nat.le_refl _) (.cells #[.int .i64 0, .int .i64 0] 190)
  go_enter Tryz.func112, Tryz.ntmps112
  go_wp2_with fail
  obtain ⟨W, hW⟩ : ∃ W, W = w.alloc (.cells #[.int .i64 0, .int .i64 0] 190) := ⟨_, rfl⟩
  rw [← hW] at kz hb ⊢
  clear hW
  go_loopg [0, 1, 12] n (fun k a b i wr => ∃ (j : Nat) (ep num : Int), j ≤ n ∧ k = n - j ∧ i = .int .i64 j ∧ a = .int .i64 ep ∧ b = .int .i64 num ∧ Hid (fol ep0 num0 0 cs = fol ep num j (cs.drop j)) ∧ Below w.heap.size w wr ∧ Blk wr w.heap.size 190 #[.int .i64 0, .int .i64 0])
  case atStart => exact ⟨0, ep0, num0, by omega, rfl, rfl, rfl, rfl, hid (by simp), hb, kz⟩
  case round =>
    clear hb kz
    obtain ⟨j, ep, num, hj, rfl, rfl, rfl, rfl, hfo, hb, kz⟩ := hrel
    have hsz := hb.size
    by_cases hlt : j < n
    · have hw := h.keep hb
      obtain ⟨b, off, me, mn, Ao, no, co, os, rfl, hbB, hcj, hos, hno, c0, c1, c2⟩ := hw.at_ hlt
      have hji : (j : Int) < (n : Int) := by omega
      have hdrop : cs.drop j = ⟨me, mn, Ao, no, co, os⟩ :: cs.drop (j + 1) := by
        have hjl : j < cs.length := by rw [HL.out]; exact hlt
        rw [List.drop_eq_getElem_cons hjl]
        rw [List.getElem?_eq_getElem hjl] at hcj
        rw [Option.some.inj hcj]
      have hb1 := hb.alloc hsz (.cells #[.int .i64 me, .int .i64 mn, .slice Ao no co] 88)
      have hck := commit41 ⟨me, mn, Ao, no, co, os⟩ (wr.alloc (.cells #[.int .i64 me, .int .i64 mn, .slice Ao no co] 88)) (((h.keep hb).2.2 _ (List.mem_of_getElem? hcj)).1.keep (by exact (Below.refl _ _).alloc hsz _) |>.more (by simp; omega)) hno
      have kb := Blk.new wr 88 #[.int .i64 me, .int .i64 mn, .slice Ao no co]
      have kz1 := kz.alloc (.cells #[.int .i64 me, .int .i64 mn, .slice Ao no co] 88)
      have hle : w.heap.size < wr.heap.size := kz.lt
      have hin : (Cm.mk me mn Ao no co os).k = 0 → (1 ≤ mn ∧ mn ≤ 1048576) := by
        intro hk
        unfold Cm.k at hk
        split at hk
        · rename_i hi
          exact hi.2
        · cases hk
      obtain ⟨k, hk⟩ : ∃ k, (Cm.mk me mn Ao no co os).k = k := ⟨_, rfl⟩
      rw [hk] at hck hin
      have hfo2 : fol ep0 num0 0 cs = if k ≠ 0 then (k, j) else if mn - 1 ≠ num ∨ me < ep then (15, j) else fol me mn (j + 1) (cs.drop (j + 1)) := by
        rw [hfo.out, hdrop]
        simp only [fol, hk]
      have HF := hid hfo2
      have HIN := hid hin
      have HB1 := hid hb1
      have HK1 := hid kz1
      clear hfo2 hdrop hcj hk hin hw hos hb hb1 kz kz1 hfo
      go_wp2_with (go_at_call 161; refine stop_ (fun Ps hPs => ?_))
      refine hPs ?_
      clear hPs Ps
      obtain ⟨W1, hW1⟩ : ∃ W, W = wr.alloc (.cells #[.int .i64 me, .int .i64 mn, .slice Ao no co] 88) := ⟨_, rfl⟩
      obtain ⟨b8, hb8⟩ : ∃ b, b = wr.heap.size := ⟨_, rfl⟩
      have HB1 : Hid (Below w.heap.size w W1) := by rw [hW1]; exact HB1
      have HK1 : Hid (Blk W1 w.heap.size 190 #[.int .i64 0, .int .i64 0]) := by rw [hW1]; exact HK1
      rw [← hW1] at hck kb ⊢
      rw [← hb8] at kb hle ⊢
      clear hW1 hb8 c0 c1 c2
      refine hck.mono ?_
      clear hck
      rintro e w2 ⟨rfl, hb2⟩
      have kb2 := kb.later hb2
      have kz2 := HK1.out.later hb2
      have hB2 := bl_trans HB1.out hb2 HB1.out.size
      have hs2 := hB2.size
      have hbl : b8 < w2.heap.size := kb2.lt
      have kb3 := kb2.alloc (.cells #[.int .i64 k, .int .i64 (j : Nat)] 190)
      have kz3 := kz2.alloc (.cells #[.int .i64 k, .int .i64 (j : Nat)] 190)
      have kf := Blk.new w2 190 #[.int .i64 k, .int .i64 (j : Nat)]
      have hB3 := hB2.alloc hs2 (.cells #[.int .i64 k, .int .i64 (j : Nat)] 190)
      have m0 : w2.cell? ⟨b8, 0, none⟩ = some (.int .i64 me) := kb2.cell 0
      have m1 : w2.cell? ⟨b8, 1, none⟩ = some (.int .i64 mn) := kb2.cell 1
      have m2 : w2.cell? ⟨b8, 2, none⟩ = some (.slice Ao no co) := kb2.cell 2
      have z0 : w2.cell? ⟨w.heap.size, 0, none⟩ = some (.int .i64 0) := kz2.cell 0
      have z1 : w2.cell? ⟨w.heap.size, 1, none⟩ = some (.int .i64 0) := kz2.cell 1
      have y0 := kz2.frozen 0
      have y1 := kz2.frozen 1
      clear kb kb2 hb2 kb3
      have HB3 := hid hB3
      have HZ3 := hid kz3
      have HKZ2 := hid kz2
      have HB2 := hid hB2
      clear hB3 kz3 kf kz2 hB2
      by_cases hk0 : k = 0
      · subst hk0
        obtain ⟨r1, r2⟩ := HIN.out rfl
        have hw1 : wrap64 (mn - 1) = mn - 1 := by simp only [wrap64]; omega
        by_cases ho : mn - 1 ≠ num ∨ me < ep
        · have HR : Hid (fol ep0 num0 0 cs = (15, j)) := by rw [HF.out, if_neg (by decide), if_pos ho]; exact hid rfl
          have ho2 : (mn - 1 != num) = true ∨ ((mn - 1 != num) = false ∧ me < ep) := by
            simp only [bne_iff_ne, bne_eq_false_iff_eq]
            omega
          clear ho
          rcases ho2 with g1 | ⟨g1, g2⟩
          · skip
            have kzK := HKZ2.out.alloc (.cells #[.int .i64 15, .int .i64 (j : Nat)] 190)
            have z0K : (w2.alloc (.cells #[.int .i64 15, .int .i64 (j : Nat)] 190)).cell? ⟨w.heap.size, 0, none⟩ = some (.int .i64 0) := kzK.cell 0
            have z1K : (w2.alloc (.cells #[.int .i64 15, .int .i64 (j : Nat)] 190)).cell? ⟨w.heap.size, 1, none⟩ = some (.int .i64 0) := kzK.cell 1
            have y0K := kzK.frozen 0
            have y9K := kzK.frozen 1
            have y1K : ((w2.setCell ⟨w.heap.size, 0, none⟩ (.int .i64 15)).alloc (.cells #[.int .i64 15, .int .i64 (j : Nat)] 190)).frozen? ⟨w.heap.size, 1, none⟩ = false := ((HKZ2.out.set_ 0 (.int .i64 15)).alloc _).frozen 1
            clear kzK
            go_wp2_with fail
            refine bodyPost_ret (by simp [results, Tryz.results112, go_sem, z0K, z1K]; try rfl) rfl ?_
            first | exact folds_eq HR.out (below_two (HB2.out.alloc hs2 _) (Nat.le_refl _) _ _) | exact folds_eq HR.out ((below_two HB2.out (Nat.le_refl _) _ _).alloc (by simp; omega) _)
          · skip
            have kzK := HKZ2.out.alloc (.cells #[.int .i64 15, .int .i64 (j : Nat)] 190)
            have z0K : (w2.alloc (.cells #[.int .i64 15, .int .i64 (j : Nat)] 190)).cell? ⟨w.heap.size, 0, none⟩ = some (.int .i64 0) := kzK.cell 0
            have z1K : (w2.alloc (.cells #[.int .i64 15, .int .i64 (j : Nat)] 190)).cell? ⟨w.heap.size, 1, none⟩ = some (.int .i64 0) := kzK.cell 1
            have y0K := kzK.frozen 0
            have y9K := kzK.frozen 1
            have y1K : ((w2.setCell ⟨w.heap.size, 0, none⟩ (.int .i64 15)).alloc (.cells #[.int .i64 15, .int .i64 (j : Nat)] 190)).frozen? ⟨w.heap.size, 1, none⟩ = false := ((HKZ2.out.set_ 0 (.int .i64 15)).alloc _).frozen 1
            clear kzK
            go_wp2_with fail
            refine bodyPost_ret (by simp [results, Tryz.results112, go_sem, z0K, z1K]; try rfl) rfl ?_
            first | exact folds_eq HR.out (below_two (HB2.out.alloc hs2 _) (Nat.le_refl _) _ _) | exact folds_eq HR.out ((below_two HB2.out (Nat.le_refl _) _ _).alloc (by simp; omega) _)
        · have g1 : (mn - 1 != num) = false := by
            simp only [bne_eq_false_iff_eq]
            omega
          have g2 : ¬me < ep := by omega
          have HR : Hid (fol ep0 num0 0 cs = fol me mn (j + 1) (cs.drop (j + 1))) := by rw [HF.out, if_neg (by decide), if_neg ho]; exact hid rfl
          clear ho
          go_wp2_with fail
          go_quiet (fail)
          go_wp2_with fail
          go_roundg (n - (j + 1))
          case measure => omega
          case rel =>
            exact ⟨j + 1, me, mn, by omega, rfl, by go_num, rfl, rfl, HR, below_drewN HB3.out _, HZ3.out.drewN _⟩
      · have HR : Hid (fol ep0 num0 0 cs = (k, j)) := by rw [HF.out, if_pos hk0]; exact hid rfl
        have g1 : (k == 0) = false := by simp [hk0]
        have kzK := HKZ2.out.alloc (.cells #[.int .i64 k, .int .i64 (j : Nat)] 190)
        have z0K : (w2.alloc (.cells #[.int .i64 k, .int .i64 (j : Nat)] 190)).cell? ⟨w.heap.size, 0, none⟩ = some (.int .i64 0) := kzK.cell 0
        have z1K : (w2.alloc (.cells #[.int .i64 k, .int .i64 (j : Nat)] 190)).cell? ⟨w.heap.size, 1, none⟩ = some (.int .i64 0) := kzK.cell 1
        have y0K := kzK.frozen 0
        have y9K := kzK.frozen 1
        have y1K : ((w2.setCell ⟨w.heap.size, 0, none⟩ (.int .i64 k)).alloc (.cells #[.int .i64 k, .int .i64 (j : Nat)] 190)).frozen? ⟨w.heap.size, 1, none⟩ = false := ((HKZ2.out.set_ 0 (.int .i64 k)).alloc _).frozen 1
        clear kzK
        go_wp2_with fail
        refine bodyPost_ret (by simp [results, Tryz.results112, go_sem, z0K, z1K]; try rfl) rfl ?_
        first | exact folds_eq HR.out (below_two (HB2.out.alloc hs2 _) (Nat.le_refl _) _ _) | exact folds_eq HR.out ((below_two HB2.out (Nat.le_refl _) _ _).alloc (by simp; omega) _)
    · obtain rfl : j = n := by omega
      have HR : Hid (fol ep0 num0 0 cs = (0, 0)) := by
        rw [hfo.out, List.drop_of_length_le (by rw [HL.out]; omega)]
        exact hid rfl
      have e0 : wr.cell? ⟨w.heap.size, 0, none⟩ = some (.int .i64 0) := kz.cell 0
      have e1 : wr.cell? ⟨w.heap.size, 1, none⟩ = some (.int .i64 0) := kz.cell 1
      have y0 := kz.frozen 0
      have y1 := kz.frozen 1
      have kzE := (kz.set_ 0 (.int .i64 0)).set_ 1 (.int .i64 0)
      have KZE := hid kzE
      have y2 : (wr.setCell ⟨w.heap.size, 0, none⟩ (.int .i64 0)).frozen? ⟨w.heap.size, 1, none⟩ = false := (kz.set_ 0 (.int .i64 0)).frozen 1
      clear kz kzE
      go_wp2_with fail
      have e2 : ((wr.setCell ⟨w.heap.size, 0, none⟩ (.int .i64 0)).setCell ⟨w.heap.size, 1, none⟩ (.int .i64 0)).cell? ⟨w.heap.size, 0, none⟩ = some (.int .i64 0) := KZE.out.cell 0
      have e3 : ((wr.setCell ⟨w.heap.size, 0, none⟩ (.int .i64 0)).setCell ⟨w.heap.size, 1, none⟩ (.int .i64 0)).cell? ⟨w.heap.size, 1, none⟩ = some (.int .i64 0) := KZE.out.cell 1
      refine bodyPost_ret (by simp [results, Tryz.results112, go_sem, e0, e1]; try rfl) rfl ?_
      exact folds_eq (b := 0) HR.out (below_two hb (Nat.le_refl _) _ _)
end Go.Proofs.YtbpnbcjgkbpmgaaGreat.St
namespace Vi
def encF : Nat → Nat → List UInt8
  | 0, x => [UInt8.ofNat x]
  | f + 1, x => if x < 128 then [UInt8.ofNat x] else UInt8.ofNat (x % 128 + 128) :: encF f (x / 128)
def enc (x : Nat) : List UInt8 := encF 9 x
def dec : Nat → Nat → List UInt8 → Nat × Nat × Nat
  | _, _, [] => (0, 0, 5)
  | i, x, c :: cs =>
    if i = 9 ∧ 1 < c.toNat then (0, 0, 5)
    else if 128 ≤ c.toNat then dec (i + 1) (x + c.toNat % 128 * 128 ^ i) cs
    else if c.toNat = 0 ∧ 0 < i then (0, 0, 5)
    else (x + c.toNat % 128 * 128 ^ i, i + 1, 0)
def small (most : Int) (bs : List UInt8) : Nat × Nat × Nat :=
  if (dec 0 0 bs).2.2 ≠ 0 ∨ most < 0 ∨ most < ((dec 0 0 bs).1 : Int) then (0, 0, 5) else dec 0 0 bs
theorem encF_pos (f x : Nat) : 0 < (encF f x).length := by
  cases f <;> simp only [encF]
  · simp
  · split <;> simp
theorem encF_len_le (f x : Nat) : (encF f x).length ≤ f + 1 := by
  induction f generalizing x with
  | zero => simp [encF]
  | succ f ih =>
    simp only [encF]
    split
    · simp
    · have := ih (x / 128); simp; omega
theorem encF_zero (f x : Nat) (h : x < 128) : encF f x = [UInt8.ofNat x] := by
  cases f <;> simp [encF, h]
theorem u8_toNat (n : Nat) (h : n < 256) : (UInt8.ofNat n).toNat = n := by
  simp [UInt8.toNat_ofNat']; omega
theorem dec_encF (f : Nat) : ∀ i x v more, v < 2 * 128 ^ f → i + f = 9 → (i = 0 ∨ 0 < v) → dec i x (encF f v ++ more) = (x + v * 128 ^ i, i + (encF f v).length, 0) := by
  induction f with
  | zero =>
    intro i x v more hv hi h0
    simp at hv
    have hu := u8_toNat v (by omega)
    have h9 : i = 9 := by omega
    subst h9
    have : v = 1 := by omega
    subst this
    simp [encF, dec]
  | succ f ih =>
    intro i x v more hv hi h0
    simp only [encF]
    split
    · rename_i h
      have hu := u8_toNat v (by omega)
      simp only [List.singleton_append, dec, hu]
      rw [if_neg (by omega), if_neg (by omega), if_neg (by omega)]
      rw [Nat.mod_eq_of_lt h]; rfl
    · rename_i h
      have hu := u8_toNat (v % 128 + 128) (by omega)
      simp only [List.cons_append, dec, hu]
      rw [if_neg (by omega), if_pos (by omega)]
      rw [ih (i + 1) _ (v / 128) more (by rw [Nat.pow_succ] at hv; omega) (by omega) (by omega)]
      refine Prod.ext ?_ (Prod.ext ?_ rfl)
      · show x + (v % 128 + 128) % 128 * 128 ^ i + v / 128 * 128 ^ (i + 1) = x + v * 128 ^ i
        have e1 : (v % 128 + 128) % 128 = v % 128 := by omega
        have e2 : v / 128 * 128 ^ (i + 1) = 128 * (v / 128) * 128 ^ i := by rw [Nat.pow_succ]; ac_rfl
        rw [e1, e2, Nat.add_assoc, ← Nat.add_mul]
        congr 2
        omega
      · simp; omega
theorem two64 : (2 : Nat) ^ 64 = 2 * 128 ^ 9 := by decide
theorem dec_enc (v : Nat) (more : List UInt8) (h : v < 2 ^ 64) : dec 0 0 (enc v ++ more) = (v, (enc v).length, 0) := by
  have := dec_encF 9 0 0 v more (by rw [← two64]; exact h) rfl (Or.inl rfl)
  simpa [enc] using this
theorem or_digit (x d j : Nat) (hx : x < 128 ^ j) : x ||| d * 128 ^ j = x + d * 128 ^ j := by
  have e : d * 128 ^ j = d <<< (7 * j) := by rw [Nat.shiftLeft_eq, Nat.pow_mul]
  have hx' : x < 2 ^ (7 * j) := by rw [Nat.pow_mul]; exact hx
  rw [e, Nat.or_comm, ← Nat.shiftLeft_add_eq_or_of_lt hx' d, Nat.add_comm]
theorem digit_fits (d j : Nat) (hj : j ≤ 9) (hd : d < 128) (h9 : j = 9 → d ≤ 1) : d * 128 ^ j < 18446744073709551616 := by
  rcases Nat.lt_or_ge j 9 with h | h
  · have h1 : 128 ^ j ≤ 128 ^ 8 := Nat.pow_le_pow_right (by decide) (by omega)
    have h2 := Nat.mul_le_mul (Nat.le_of_lt hd) h1
    exact Nat.lt_of_le_of_lt h2 (by decide)
  · have h9' : j = 9 := by omega
    subst h9'
    have h2 := Nat.mul_le_mul_right (128 ^ 9) (h9 rfl)
    exact Nat.lt_of_le_of_lt h2 (by decide)
theorem pow_fits (j : Nat) (hj : j ≤ 9) : 128 ^ j < 18446744073709551616 := by
  have h1 : 128 ^ j ≤ 128 ^ 9 := Nat.pow_le_pow_right (by decide) hj
  exact Nat.lt_of_le_of_lt h1 (by decide)
theorem digits_more (x d j : Nat) (hx : x < 128 ^ j) (hd : d < 128) : x + d * 128 ^ j < 128 ^ (j + 1) := by
  have h1 : (d + 1) * 128 ^ j ≤ 128 * 128 ^ j := Nat.mul_le_mul_right _ (by omega)
  rw [Nat.add_mul, Nat.one_mul] at h1
  rw [Nat.pow_succ, Nat.mul_comm (128 ^ j)]
  omega
theorem dec_fits (bs : List UInt8) : ∀ i x, i ≤ 9 → x < 128 ^ i → (dec i x bs).1 < 2 ^ 64 ∧ (dec i x bs).2.1 ≤ i + bs.length ∧ (dec i x bs).2.1 ≤ 10 := by
  induction bs with
  | nil => intro i x _ _; simp [dec]
  | cons c cs ih =>
    intro i x hi hx
    have hp : 0 < 128 ^ i := Nat.pow_pos (by decide)
    have hc := c.toNat_lt
    have hm : c.toNat % 128 < 128 := Nat.mod_lt _ (by decide)
    have hlt : x + c.toNat % 128 * 128 ^ i < 128 ^ (i + 1) := by
      have h1 : (c.toNat % 128 + 1) * 128 ^ i ≤ 128 * 128 ^ i := Nat.mul_le_mul_right _ (by omega)
      rw [Nat.add_mul, Nat.one_mul] at h1
      rw [Nat.pow_succ, Nat.mul_comm (128 ^ i)]
      omega
    simp only [dec]
    split
    · simp
    · split
      · rename_i h1 h2
        have hi' : i ≠ 9 := by omega
        have := ih (i + 1) _ (by omega) hlt
        refine ⟨this.1, ?_, this.2.2⟩
        have := this.2.1
        simp only [List.length_cons]; omega
      · split
        · simp
        · rename_i h1 h2 h3
          refine ⟨?_, by simp only [List.length_cons]; omega, by show i + 1 ≤ 10; omega⟩
          rcases Nat.lt_or_ge i 9 with h | h
          · have : 128 ^ (i + 1) ≤ 128 ^ 9 := Nat.pow_le_pow_right (by decide) (by omega)
            rw [two64]
            show x + c.toNat % 128 * 128 ^ i < _
            omega
          · have h9 : i = 9 := by omega
            subst h9
            have : c.toNat % 128 ≤ 1 := by omega
            rw [two64]
            show x + c.toNat % 128 * 128 ^ 9 < _
            have := Nat.mul_le_mul_right (128 ^ 9) this
            omega
def digit (j y : Nat) : Nat := if j = 9 then y % 2 else y
theorem dec_err (bs : List UInt8) : ∀ i x, (dec i x bs).2.2 = 0 ∨ dec i x bs = (0, 0, 5) := by
  induction bs with
  | nil => intro i x; right; rfl
  | cons c cs ih =>
    intro i x
    simp only [dec]
    split
    · right; rfl
    · split
      · exact ih _ _
      · split
        · right; rfl
        · left; rfl
end Vi
namespace Vi
def fr (r : List UInt8) : List UInt8 := enc r.length ++ r
def fread (b : List UInt8) : Option (List UInt8 × Nat) :=
  if (small 131072 b).2.2 ≠ 0 ∨ b.length < (small 131072 b).2.1 + (small 131072 b).1 then none
  else some ((b.drop (small 131072 b).2.1).take (small 131072 b).1, (small 131072 b).2.1 + (small 131072 b).1)
def scanF : Nat → List UInt8 → List (List UInt8) × Nat
  | 0, _ => ([], 0)
  | f + 1, b => match fread b with
    | none => ([], 0)
    | some (r, m) => (r :: (scanF f (b.drop m)).1, m + (scanF f (b.drop m)).2)
def scan (b : List UInt8) : List (List UInt8) × Nat := scanF (b.length + 1) b
theorem dec_pos (bs : List UInt8) : ∀ i x, (dec i x bs).2.2 = 0 → i < (dec i x bs).2.1 := by
  induction bs with
  | nil => intro i x h; simp [dec] at h
  | cons c cs ih =>
    intro i x h
    simp only [dec] at h ⊢
    split at h
    · simp at h
    · rename_i h1
      rw [if_neg h1]
      split at h
      · rename_i h2; rw [if_pos h2]; have := ih _ _ h; omega
      · rename_i h2
        rw [if_neg h2]
        split at h
        · simp at h
        · rename_i h3; rw [if_neg h3]; show i < i + 1; omega
theorem small_ok {m : Int} {b : List UInt8} (h : (small m b).2.2 = 0) : small m b = dec 0 0 b ∧ (dec 0 0 b).2.2 = 0 ∧ ((small m b).1 : Int) ≤ m := by
  unfold small at h ⊢
  split at h
  · simp at h
  · rename_i hc
    rw [if_neg hc]
    have : ¬ m < ((dec 0 0 b).1 : Int) := fun q => hc (.inr (.inr q))
    exact ⟨rfl, h, by omega⟩
theorem small_bad {m : Int} {b : List UInt8} (h : (small m b).2.2 ≠ 0) : small m b = (0, 0, 5) := by
  unfold small at h ⊢
  split at h
  · rename_i hc; rw [if_pos hc]
  · rename_i hc
    exfalso
    rcases dec_err b 0 0 with he | he
    · exact h he
    · exact hc (.inl (by rw [he]; decide))
theorem small_len {m : Int} {b : List UInt8} (h : (small m b).2.2 = 0) : 0 < (small m b).2.1 ∧ (small m b).2.1 ≤ b.length ∧ (small m b).2.1 ≤ 10 := by
  obtain ⟨h1, h2, _⟩ := small_ok h
  rw [h1]
  have := dec_fits b 0 0 (by omega) (by decide)
  exact ⟨dec_pos b 0 0 h2, by omega, this.2.2⟩
theorem fread_fits {b r : List UInt8} {m : Nat} (h : fread b = some (r, m)) : 0 < m ∧ m ≤ b.length ∧ r.length ≤ 131072 ∧ r.length < m := by
  unfold fread at h
  split at h
  · cases h
  · rename_i hc
    have h0 : (small 131072 b).2.2 = 0 := by
      rcases Nat.eq_zero_or_pos (small 131072 b).2.2 with q | q
      · exact q
      · exact absurd (.inl (by omega)) hc
    have h1 := small_len h0
    have h2 := small_ok h0
    have h3 : ¬ b.length < (small 131072 b).2.1 + (small 131072 b).1 := fun q => hc (.inr q)
    simp only [Option.some.injEq, Prod.mk.injEq] at h
    obtain ⟨rfl, rfl⟩ := h
    rw [List.length_take, List.length_drop]
    omega
def frs (l : List (List UInt8)) : List UInt8 := l.flatMap fr
end Vi
