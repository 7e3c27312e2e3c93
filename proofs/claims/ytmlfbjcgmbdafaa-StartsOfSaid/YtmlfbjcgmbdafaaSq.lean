/- Commits one behind the other. -/
import Derived.Test.YtmlfbjcgmbdafaaSo
namespace Go.Proofs.Ytmlfbjcgmbdafaa
open Go.RowKit Go.Lg
set_option linter.unusedVariables false
set_option linter.unusedSimpArgs false

def cmc (cs : List Cm) : List Value := cs.flatMap fun m => [.int .i64 m.ep, .int .i64 m.num, .slice m.A m.n m.c]
theorem cmc_get : ∀ (cs : List Cm) (j : Nat) (m : Cm), cs[j]? = some m → (cmc cs)[j * 3]? = some (.int .i64 m.ep) ∧ (cmc cs)[j * 3 + 1]? = some (.int .i64 m.num) ∧ (cmc cs)[j * 3 + 2]? = some (.slice m.A m.n m.c)
  | [], j, o, h => by simp at h
  | a :: cs, 0, o, h => by
    simp at h
    subst h
    exact ⟨rfl, rfl, rfl⟩
  | a :: cs, j + 1, o, h => by
    have e1 : cmc (a :: cs) = [.int .i64 a.ep, .int .i64 a.num, .slice a.A a.n a.c] ++ cmc cs := rfl
    have e2 : (j + 1) * 3 = j * 3 + 1 + 1 + 1 := by omega
    have h1 := cmc_get cs j o (by simpa using h)
    rw [e1, e2]
    exact h1
/-- Commits that are there. -/
def CS (w : World) (B : Nat) (A : Option Addr) (n : Nat) (cs : List Cm) : Prop := Rd w B 3 A n (cmc cs) ∧ cs.length = n ∧ ∀ m ∈ cs, OS w B m.A m.n m.os ∧ m.n ≤ 9223372036854775807
theorem CS.keep {w w' : World} {B n : Nat} {A : Option Addr} {cs : List Cm} (h : CS w B A n cs) (hb : Below B w w') : CS w' B A n cs := ⟨h.1.below hb, h.2.1, fun m hm => ⟨(h.2.2 m hm).1.keep hb, (h.2.2 m hm).2⟩⟩
theorem CS.more {w : World} {B B' n : Nat} {A : Option Addr} {cs : List Cm} (h : CS w B A n cs) (hb : B ≤ B') : CS w B' A n cs := ⟨h.1.more hb, h.2.1, fun m hm => ⟨(h.2.2 m hm).1.more hb, (h.2.2 m hm).2⟩⟩
theorem CS.at_ {w : World} {B n : Nat} {A : Option Addr} {cs : List Cm} {j : Nat} (h : CS w B A n cs) (hj : j < n) :
    ∃ b off ep num Ao no co os, A = some ⟨b, off, none⟩ ∧ b < B ∧ cs[j]? = some ⟨ep, num, Ao, no, co, os⟩ ∧ OS w B Ao no os ∧ no ≤ 9223372036854775807 ∧ w.cell? ⟨b, off + j * 3, none⟩ = some (.int .i64 ep) ∧ w.cell? ⟨b, off + j * 3 + 1, none⟩ = some (.int .i64 num) ∧ w.cell? ⟨b, off + j * 3 + 2, none⟩ = some (.slice Ao no co) := by
  obtain ⟨h1, h2, h3⟩ := h
  have ho : cs[j]? = some (cs[j]'(by omega)) := List.getElem?_eq_getElem _
  obtain ⟨⟨ep, num, Ao, no, co, os⟩, hq⟩ : ∃ o, cs[j]'(by omega) = o := ⟨_, rfl⟩
  rw [hq] at ho
  obtain ⟨b, off, rfl, hb, hc⟩ := h1.2 (by omega)
  obtain ⟨g1, g2, g3⟩ := cmc_get cs j _ ho
  obtain ⟨k1, k2⟩ := h3 _ (List.mem_of_getElem? ho)
  exact ⟨b, off, ep, num, Ao, no, co, os, rfl, hb, ho, k1, k2, hc _ _ g1, by have := hc _ _ g2; rwa [← Nat.add_assoc] at this, by have := hc _ _ g3; rwa [← Nat.add_assoc] at this⟩

/-- Which one does not follow, and why. -/
def fol : Int → Int → Nat → List Cm → Int × Nat
  | _, _, _, [] => (0, 0)
  | ep, num, i, m :: r => if m.k ≠ 0 then (m.k, i) else if m.num - 1 ≠ num ∨ m.ep < ep then (15, i) else fol m.ep m.num (i + 1) r
def Folds (r : Int × Nat) (w : World) (e : Ending) (w' : World) : Prop := e = .returned (.agg #[.int .i64 r.1, .int .i64 r.2]) ∧ Below w.heap.size w w'
theorem folds_eq {r : Int × Nat} {a : Int} {b : Nat} {w w' : World} (h : r = (a, b)) (hb : Below w.heap.size w w') : Folds r w (.returned (.agg #[.int .i64 a, .int .i64 (b : Nat)])) w' := by
  subst h
  exact ⟨rfl, hb⟩
theorem below_two {w0 w : World} {B b : Nat} (h : Below B w0 w) (hb : B ≤ b) (x y : Value) : Below B w0 ((w.setCell ⟨b, 0, none⟩ x).setCell ⟨b, 1, none⟩ y) :=
  (h.setCell (p := ⟨b, 0, none⟩) hb x).setCell (p := ⟨b, 1, none⟩) hb y

set_option maxHeartbeats 4000000 in
set_option maxRecDepth 100000 in
theorem follows37 (A : Option Addr) (n c : Nat) (cs : List Cm) (ep0 num0 : Int) (w : World) (h : CS w w.heap.size A n cs) (hn : n ≤ 9223372036854775807) :
    Calls Try.prog 37 #[.int .i64 ep0, .int .i64 num0, .slice A n c] w (Folds (fol ep0 num0 0 cs) w) := by
  have HL := hid h.2.1
  have kz := Blk.new w 44 #[.int .i64 0, .int .i64 0]
  have hb := (Below.refl w.heap.size w).alloc (Nat.le_refl _) (.cells #[.int .i64 0, .int .i64 0] 44)
  go_enter Try.func37, Try.ntmps37
  go_wp2_with fail
  obtain ⟨W, hW⟩ : ∃ W, W = w.alloc (.cells #[.int .i64 0, .int .i64 0] 44) := ⟨_, rfl⟩
  rw [← hW] at kz hb ⊢
  clear hW
  go_loopg [0, 1, 12] n (fun k a b i wr => ∃ (j : Nat) (ep num : Int), j ≤ n ∧ k = n - j ∧ i = .int .i64 j ∧ a = .int .i64 ep ∧ b = .int .i64 num ∧ Hid (fol ep0 num0 0 cs = fol ep num j (cs.drop j)) ∧ Below w.heap.size w wr ∧ Blk wr w.heap.size 44 #[.int .i64 0, .int .i64 0])
  case atStart => exact ⟨0, ep0, num0, by omega, rfl, rfl, rfl, rfl, hid (by simp), hb, kz⟩
  case round =>
    clear hb kz
    obtain ⟨j, ep, num, hj, rfl, rfl, rfl, rfl, hfo, hb, kz⟩ := hrel
    have hsz := hb.size
    by_cases hlt : j < n
    · have hw := h.keep hb
      obtain ⟨b, off, me, mn, Ao, no, co, os, rfl, hbB, hcj, hos, hno, c0, c1, c2⟩ := hw.at_ hlt
      have hji : (j : Int) < (n : Int) := by omega
      have hdrop : cs.drop j = ⟨me, mn, Ao, no, co, os⟩ :: cs.drop (j + 1) := by
        have hjl : j < cs.length := by rw [HL.out]; exact hlt
        rw [List.drop_eq_getElem_cons hjl]
        rw [List.getElem?_eq_getElem hjl] at hcj
        rw [Option.some.inj hcj]
      have hb1 := hb.alloc hsz (.cells #[.int .i64 me, .int .i64 mn, .slice Ao no co] 40)
      have hck := commit41 ⟨me, mn, Ao, no, co, os⟩ (wr.alloc (.cells #[.int .i64 me, .int .i64 mn, .slice Ao no co] 40)) (((h.keep hb).2.2 _ (List.mem_of_getElem? hcj)).1.keep (by exact (Below.refl _ _).alloc hsz _) |>.more (by simp; omega)) hno
      have kb := Blk.new wr 40 #[.int .i64 me, .int .i64 mn, .slice Ao no co]
      have kz1 := kz.alloc (.cells #[.int .i64 me, .int .i64 mn, .slice Ao no co] 40)
      have hle : w.heap.size < wr.heap.size := kz.lt
      have hin : (Cm.mk me mn Ao no co os).k = 0 → (1 ≤ mn ∧ mn ≤ 1048576) := by
        intro hk
        unfold Cm.k at hk
        split at hk
        · rename_i hi
          exact hi.2
        · cases hk
      obtain ⟨k, hk⟩ : ∃ k, (Cm.mk me mn Ao no co os).k = k := ⟨_, rfl⟩
      rw [hk] at hck hin
      have hfo2 : fol ep0 num0 0 cs = if k ≠ 0 then (k, j) else if mn - 1 ≠ num ∨ me < ep then (15, j) else fol me mn (j + 1) (cs.drop (j + 1)) := by
        rw [hfo.out, hdrop]
        simp only [fol, hk]
      have HF := hid hfo2
      have HIN := hid hin
      have HB1 := hid hb1
      have HK1 := hid kz1
      clear hfo2 hdrop hcj hk hin hw hos hb hb1 kz kz1 hfo
      go_wp2_with (go_at_call 41; refine stop_ (fun Ps hPs => ?_))
      refine hPs ?_
      clear hPs Ps
      obtain ⟨W1, hW1⟩ : ∃ W, W = wr.alloc (.cells #[.int .i64 me, .int .i64 mn, .slice Ao no co] 40) := ⟨_, rfl⟩
      obtain ⟨b8, hb8⟩ : ∃ b, b = wr.heap.size := ⟨_, rfl⟩
      have HB1 : Hid (Below w.heap.size w W1) := by rw [hW1]; exact HB1
      have HK1 : Hid (Blk W1 w.heap.size 44 #[.int .i64 0, .int .i64 0]) := by rw [hW1]; exact HK1
      rw [← hW1] at hck kb ⊢
      rw [← hb8] at kb hle ⊢
      clear hW1 hb8 c0 c1 c2
      refine hck.mono ?_
      clear hck
      rintro e w2 ⟨rfl, hb2⟩
      have kb2 := kb.later hb2
      have kz2 := HK1.out.later hb2
      have hB2 := bl_trans HB1.out hb2 HB1.out.size
      have hs2 := hB2.size
      have hbl : b8 < w2.heap.size := kb2.lt
      have kb3 := kb2.alloc (.cells #[.int .i64 k, .int .i64 (j : Nat)] 44)
      have kz3 := kz2.alloc (.cells #[.int .i64 k, .int .i64 (j : Nat)] 44)
      have kf := Blk.new w2 44 #[.int .i64 k, .int .i64 (j : Nat)]
      have hB3 := hB2.alloc hs2 (.cells #[.int .i64 k, .int .i64 (j : Nat)] 44)
      have m0 : w2.cell? ⟨b8, 0, none⟩ = some (.int .i64 me) := kb2.cell 0
      have m1 : w2.cell? ⟨b8, 1, none⟩ = some (.int .i64 mn) := kb2.cell 1
      have m2 : w2.cell? ⟨b8, 2, none⟩ = some (.slice Ao no co) := kb2.cell 2
      have z0 : w2.cell? ⟨w.heap.size, 0, none⟩ = some (.int .i64 0) := kz2.cell 0
      have z1 : w2.cell? ⟨w.heap.size, 1, none⟩ = some (.int .i64 0) := kz2.cell 1
      have y0 := kz2.frozen 0
      have y1 := kz2.frozen 1
      clear kb kb2 hb2 kb3
      have HB3 := hid hB3
      have HZ3 := hid kz3
      have HKZ2 := hid kz2
      have HB2 := hid hB2
      clear hB3 kz3 kf kz2 hB2
      by_cases hk0 : k = 0
      · subst hk0
        obtain ⟨r1, r2⟩ := HIN.out rfl
        have hw1 : wrap64 (mn - 1) = mn - 1 := by simp only [wrap64]; omega
        by_cases ho : mn - 1 ≠ num ∨ me < ep
        · have HR : Hid (fol ep0 num0 0 cs = (15, j)) := by rw [HF.out, if_neg (by decide), if_pos ho]; exact hid rfl
          have ho2 : (mn - 1 != num) = true ∨ ((mn - 1 != num) = false ∧ me < ep) := by
            simp only [bne_iff_ne, bne_eq_false_iff_eq]
            omega
          clear ho
          rcases ho2 with g1 | ⟨g1, g2⟩
          · skip
            have kzK := HKZ2.out.alloc (.cells #[.int .i64 15, .int .i64 (j : Nat)] 44)
            have z0K : (w2.alloc (.cells #[.int .i64 15, .int .i64 (j : Nat)] 44)).cell? ⟨w.heap.size, 0, none⟩ = some (.int .i64 0) := kzK.cell 0
            have z1K : (w2.alloc (.cells #[.int .i64 15, .int .i64 (j : Nat)] 44)).cell? ⟨w.heap.size, 1, none⟩ = some (.int .i64 0) := kzK.cell 1
            have y0K := kzK.frozen 0
            have y9K := kzK.frozen 1
            have y1K : ((w2.setCell ⟨w.heap.size, 0, none⟩ (.int .i64 15)).alloc (.cells #[.int .i64 15, .int .i64 (j : Nat)] 44)).frozen? ⟨w.heap.size, 1, none⟩ = false := ((HKZ2.out.set_ 0 (.int .i64 15)).alloc _).frozen 1
            clear kzK
            go_wp2_with fail
            refine bodyPost_ret (by simp [results, Try.results37, go_sem, z0K, z1K]; try rfl) rfl ?_
            first | exact folds_eq HR.out (below_two (HB2.out.alloc hs2 _) (Nat.le_refl _) _ _) | exact folds_eq HR.out ((below_two HB2.out (Nat.le_refl _) _ _).alloc (by simp; omega) _)
          · skip
            have kzK := HKZ2.out.alloc (.cells #[.int .i64 15, .int .i64 (j : Nat)] 44)
            have z0K : (w2.alloc (.cells #[.int .i64 15, .int .i64 (j : Nat)] 44)).cell? ⟨w.heap.size, 0, none⟩ = some (.int .i64 0) := kzK.cell 0
            have z1K : (w2.alloc (.cells #[.int .i64 15, .int .i64 (j : Nat)] 44)).cell? ⟨w.heap.size, 1, none⟩ = some (.int .i64 0) := kzK.cell 1
            have y0K := kzK.frozen 0
            have y9K := kzK.frozen 1
            have y1K : ((w2.setCell ⟨w.heap.size, 0, none⟩ (.int .i64 15)).alloc (.cells #[.int .i64 15, .int .i64 (j : Nat)] 44)).frozen? ⟨w.heap.size, 1, none⟩ = false := ((HKZ2.out.set_ 0 (.int .i64 15)).alloc _).frozen 1
            clear kzK
            go_wp2_with fail
            refine bodyPost_ret (by simp [results, Try.results37, go_sem, z0K, z1K]; try rfl) rfl ?_
            first | exact folds_eq HR.out (below_two (HB2.out.alloc hs2 _) (Nat.le_refl _) _ _) | exact folds_eq HR.out ((below_two HB2.out (Nat.le_refl _) _ _).alloc (by simp; omega) _)
        · have g1 : (mn - 1 != num) = false := by
            simp only [bne_eq_false_iff_eq]
            omega
          have g2 : ¬me < ep := by omega
          have HR : Hid (fol ep0 num0 0 cs = fol me mn (j + 1) (cs.drop (j + 1))) := by rw [HF.out, if_neg (by decide), if_neg ho]; exact hid rfl
          clear ho
          go_wp2_with fail
          go_quiet (fail)
          go_wp2_with fail
          go_roundg (n - (j + 1))
          case measure => omega
          case rel =>
            exact ⟨j + 1, me, mn, by omega, rfl, by go_num, rfl, rfl, HR, below_drewN HB3.out _, HZ3.out.drewN _⟩
      · have HR : Hid (fol ep0 num0 0 cs = (k, j)) := by rw [HF.out, if_pos hk0]; exact hid rfl
        have g1 : (k == 0) = false := by simp [hk0]
        have kzK := HKZ2.out.alloc (.cells #[.int .i64 k, .int .i64 (j : Nat)] 44)
        have z0K : (w2.alloc (.cells #[.int .i64 k, .int .i64 (j : Nat)] 44)).cell? ⟨w.heap.size, 0, none⟩ = some (.int .i64 0) := kzK.cell 0
        have z1K : (w2.alloc (.cells #[.int .i64 k, .int .i64 (j : Nat)] 44)).cell? ⟨w.heap.size, 1, none⟩ = some (.int .i64 0) := kzK.cell 1
        have y0K := kzK.frozen 0
        have y9K := kzK.frozen 1
        have y1K : ((w2.setCell ⟨w.heap.size, 0, none⟩ (.int .i64 k)).alloc (.cells #[.int .i64 k, .int .i64 (j : Nat)] 44)).frozen? ⟨w.heap.size, 1, none⟩ = false := ((HKZ2.out.set_ 0 (.int .i64 k)).alloc _).frozen 1
        clear kzK
        go_wp2_with fail
        refine bodyPost_ret (by simp [results, Try.results37, go_sem, z0K, z1K]; try rfl) rfl ?_
        first | exact folds_eq HR.out (below_two (HB2.out.alloc hs2 _) (Nat.le_refl _) _ _) | exact folds_eq HR.out ((below_two HB2.out (Nat.le_refl _) _ _).alloc (by simp; omega) _)
    · obtain rfl : j = n := by omega
      have HR : Hid (fol ep0 num0 0 cs = (0, 0)) := by
        rw [hfo.out, List.drop_of_length_le (by rw [HL.out]; omega)]
        exact hid rfl
      have e0 : wr.cell? ⟨w.heap.size, 0, none⟩ = some (.int .i64 0) := kz.cell 0
      have e1 : wr.cell? ⟨w.heap.size, 1, none⟩ = some (.int .i64 0) := kz.cell 1
      have y0 := kz.frozen 0
      have y1 := kz.frozen 1
      have kzE := (kz.set_ 0 (.int .i64 0)).set_ 1 (.int .i64 0)
      have KZE := hid kzE
      have y2 : (wr.setCell ⟨w.heap.size, 0, none⟩ (.int .i64 0)).frozen? ⟨w.heap.size, 1, none⟩ = false := (kz.set_ 0 (.int .i64 0)).frozen 1
      clear kz kzE
      go_wp2_with fail
      have e2 : ((wr.setCell ⟨w.heap.size, 0, none⟩ (.int .i64 0)).setCell ⟨w.heap.size, 1, none⟩ (.int .i64 0)).cell? ⟨w.heap.size, 0, none⟩ = some (.int .i64 0) := KZE.out.cell 0
      have e3 : ((wr.setCell ⟨w.heap.size, 0, none⟩ (.int .i64 0)).setCell ⟨w.heap.size, 1, none⟩ (.int .i64 0)).cell? ⟨w.heap.size, 1, none⟩ = some (.int .i64 0) := KZE.out.cell 1
      refine bodyPost_ret (by simp [results, Try.results37, go_sem, e0, e1]; try rfl) rfl ?_
      exact folds_eq (b := 0) HR.out (below_two hb (Nat.le_refl _) _ _)
end Go.Proofs.Ytmlfbjcgmbdafaa
