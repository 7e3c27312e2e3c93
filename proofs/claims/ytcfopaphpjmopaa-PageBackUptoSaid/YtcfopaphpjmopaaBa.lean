/- Of pages in a file that is cut anywhere the last whole one counts: the plain law. -/
import Derived.Test.YtcfopaphpjmopaaUn
namespace Vi
/-- What is read is written so, and not otherwise. -/
theorem dec_canon (bs : List UInt8) : ∀ i x v n, i ≤ 9 → dec i x bs = (v, n, 0) → ∃ y f, i + f = 9 ∧ v = x + y * 128 ^ i ∧ i < n ∧ bs.take (n - i) = encF f y ∧ (i = 0 ∨ 0 < y) := by
  induction bs with
  | nil => intro i x v n _ h; simp [dec] at h
  | cons c cs ih =>
    intro i x v n hi h
    simp only [dec] at h
    split at h
    · simp at h
    · rename_i h9
      split at h
      · rename_i h1
        have hi8 : i < 9 := by
          rcases Nat.lt_or_ge i 9 with h0 | h0
          · exact h0
          · exact absurd ⟨by omega, by omega⟩ h9
        obtain ⟨y, f, hf, hv, hn, ht, hy⟩ := ih (i + 1) _ v n (by omega) h
        have hc := c.toNat_lt
        refine ⟨c.toNat % 128 + 128 * y, f + 1, by omega, ?_, by omega, ?_, .inr (by omega)⟩
        · rw [hv, Nat.pow_succ, Nat.add_mul, Nat.add_assoc]
          congr 1
          rw [Nat.mul_comm (128 ^ i) 128, ← Nat.mul_assoc, Nat.mul_comm 128 y]
        · have e1 : n - i = (n - (i + 1)) + 1 := by omega
          rw [e1, List.take_succ_cons, ht]
          simp only [encF]
          rw [if_neg (by omega)]
          congr 1
          · have e2 : (c.toNat % 128 + 128 * y) % 128 + 128 = c.toNat := by omega
            rw [e2]
            simp
          · have e3 : (c.toNat % 128 + 128 * y) / 128 = y := by omega
            rw [e3]
      · rename_i h1
        split at h
        · simp at h
        · rename_i h2
          simp only [Prod.mk.injEq] at h
          obtain ⟨hv, hn, _⟩ := h
          refine ⟨c.toNat, 9 - i, by omega, ?_, by omega, ?_, by omega⟩
          · rw [← hv, Nat.mod_eq_of_lt (by omega)]
          · have e1 : n - i = 0 + 1 := by omega
            rw [e1, List.take_succ_cons, encF_zero _ _ (by omega)]
            simp
theorem dec_canon0 {b : List UInt8} {v n : Nat} (h : dec 0 0 b = (v, n, 0)) : b.take n = enc v := by
  obtain ⟨y, f, hf, hv, _, ht, _⟩ := dec_canon b 0 0 v n (by omega) h
  obtain rfl : f = 9 := by omega
  simp at hv
  subst hv
  simpa [enc] using ht
theorem small_canon {m : Int} {b : List UInt8} {k n : Nat} (h : small m b = (k, n, 0)) : b.take n = enc k := by
  have h1 := (small_ok (m := m) (b := b) (by rw [h])).1
  rw [h] at h1
  exact dec_canon0 h1.symm
theorem small_enc {m : Int} {x : Nat} (more : List UInt8) (hx : x < 2 ^ 64) (hm : (x : Int) ≤ m) : small m (enc x ++ more) = (x, (enc x).length, 0) := by
  unfold small
  rw [dec_enc x more hx]
  rw [if_neg]
  rintro (h | h | h)
  · exact h rfl
  · omega
  · have h : m < (x : Int) := h
    omega
/-- Frames one behind the other, cut anywhere: whole ones, and then none. -/
theorem torn_split (rs : List (List UInt8)) (k q : Nat) (h : ∀ r ∈ rs, r.length ≤ 131072) (hg : (frs (rs.take q)).length ≤ k) (hend : rs.length ≤ q ∨ k < (frs (rs.take (q + 1))).length) :
    ∃ more, (frs rs).take k = frs (rs.take q) ++ more ∧ fread more = none := by
  have hs : frs rs = frs (rs.take q) ++ frs (rs.drop q) := by
    unfold frs; rw [← List.flatMap_append, List.take_append_drop]
  refine ⟨(frs (rs.drop q)).take (k - (frs (rs.take q)).length), by rw [hs, List.take_append, List.take_of_length_le hg], ?_⟩
  rcases Nat.lt_or_ge q rs.length with hlt | hge
  · have hk : k < (frs (rs.take (q + 1))).length := by
      rcases hend with h1 | h1
      · omega
      · exact h1
    have hd : rs.drop q = rs[q] :: rs.drop (q + 1) := List.drop_eq_getElem_cons hlt
    have ht2 : rs.take (q + 1) = rs.take q ++ [rs[q]] := by rw [List.take_succ_eq_append_getElem hlt]
    rw [ht2, frs_snoc, List.length_append] at hk
    have e2 : frs (rs.drop q) = fr rs[q] ++ frs (rs.drop (q + 1)) := by rw [hd]; unfold frs; rw [List.flatMap_cons]
    rw [e2, List.take_append_of_le_length (by omega)]
    exact fread_cut _ _ (h _ (List.getElem_mem hlt)) (by omega)
  · rw [List.drop_of_length_le hge]
    simp only [frs, List.flatMap_nil, List.take_nil]
    decide
theorem fr_len (r : List UInt8) : (fr r).length ≤ r.length + 10 := by
  have := encF_len_le 9 r.length
  simp only [fr, enc, List.length_append]; omega
theorem frs_take {rs : List (List UInt8)} {j : Nat} {r : List UInt8} (h : rs[j]? = some r) : frs (rs.take (j + 1)) = frs (rs.take j) ++ fr r := by
  obtain ⟨hlt, rfl⟩ := List.getElem?_eq_some_iff.1 h
  rw [List.take_succ_eq_append_getElem hlt, frs_snoc]
end Vi
namespace Go.Proofs.Ytcfopaphpjmopaa
open Go.RowKit Go.Lg
set_option linter.unusedVariables false
set_option linter.unusedSimpArgs false

theorem takeN_canon : ∀ (ms : List Nat) (b : List UInt8) (xs : List Nat) (r : List UInt8), takeN ms b = some (xs, r) → b = encN xs ++ r ∧ xs.length = ms.length
  | [], b, xs, r, h => by
    simp only [takeN, Option.some.injEq, Prod.mk.injEq] at h
    obtain ⟨rfl, rfl⟩ := h
    exact ⟨rfl, rfl⟩
  | m :: ms, b, xs, r, h => by
    obtain ⟨k, n, e, hs⟩ : ∃ k n e, Vi.small m b = (k, n, e) := ⟨_, _, _, rfl⟩
    simp only [takeN, hs] at h
    split at h
    · rename_i he
      subst he
      cases ht : takeN ms (b.drop n) with
      | none => simp [ht] at h
      | some q =>
        obtain ⟨ys, r'⟩ := q
        simp only [ht, Option.map_some, Option.some.injEq, Prod.mk.injEq] at h
        obtain ⟨rfl, rfl⟩ := h
        obtain ⟨h1, h2⟩ := takeN_canon ms _ _ _ ht
        refine ⟨?_, by simp [h2]⟩
        have e1 : encN (k :: ys) = Vi.enc k ++ encN ys := rfl
        rw [e1, List.append_assoc, ← h1, ← Vi.small_canon hs, List.take_append_drop]
    · cases h
theorem takeN_enc : ∀ (ms xs : List Nat) (r : List UInt8), xs.length = ms.length → (∀ i, xs.getD i 0 ≤ ms.getD i 0) → (∀ x ∈ xs, x < 2 ^ 64) → takeN ms (encN xs ++ r) = some (xs, r)
  | [], [], r, _, _, _ => rfl
  | m :: ms, x :: xs, r, hl, hb, hf => by
    have e1 : encN (x :: xs) = Vi.enc x ++ encN xs := rfl
    have hx := hb 0
    simp only [List.getD_cons_zero] at hx
    have hs := Vi.small_enc (m := (m : Int)) (encN xs ++ r) (hf x (by simp)) (by omega)
    have hrec := takeN_enc ms xs r (by simpa using hl) (fun i => by simpa using hb (i + 1)) (fun y hy => hf y (by simp [hy]))
    rw [e1, List.append_assoc]
    simp only [takeN, hs, if_true, List.drop_left', hrec, Option.map_some]
theorem decP_encP {p : Pg} (h : Ok p) : decP (encP p) = some p := by
  have hf := nums_fit h
  have h0 := h
  obtain ⟨a1, a2, a3, a4, a5, a6⟩ := p
  obtain ⟨x1, x2, x3, x4, x5, x6, rfl, rfl, rfl, rfl, rfl, rfl, b1, b2, b3, b4, b5, b6⟩ := nat_page h
  have ht := takeN_enc mosts (nums ⟨x1, x2, x3, x4, x5, x6⟩) [] rfl (fun i => by
    match i with
    | 0 => simpa [nums, mosts] using b1
    | 1 => simpa [nums, mosts] using b2
    | 2 => simpa [nums, mosts] using b3
    | 3 => simpa [nums, mosts] using b4
    | 4 => simpa [nums, mosts] using b5
    | 5 => simpa [nums, mosts] using b6
    | i + 6 => simp [nums, mosts]) hf
  rw [List.append_nil] at ht
  unfold decP encP
  rw [ht]
  have e1 : pageOf (nums ⟨x1, x2, x3, x4, x5, x6⟩) = ⟨x1, x2, x3, x4, x5, x6⟩ := by simp [pageOf, nums]
  simp only [e1, if_pos h0]
theorem decP_some {b : List UInt8} {q : Pg} (h : decP b = some q) : Ok q ∧ encP q = b := by
  unfold decP at h
  split at h
  · rename_i xs ht
    split at h
    · rename_i hok
      obtain ⟨h1, h2⟩ := takeN_canon _ _ _ _ ht
      rw [Option.some.injEq] at h
      subst h
      refine ⟨hok, ?_⟩
      rw [List.append_nil] at h1
      match xs, h2 with
      | [y1, y2, y3, y4, y5, y6], _ =>
        rw [h1]
        simp [encP, nums, pageOf]
    · cases h
  · cases h
theorem encP_le (p : Pg) : (encP p).length ≤ 60 := Nat.le_trans (encN_le _) (by simp [nums])
theorem last_frs : ∀ (ps : List Pg) (p : Pg) (more : List UInt8) (f : Nat), (∀ q ∈ ps, Ok q) → Vi.fread more = none → (Vi.frs (ps.map encP) ++ more).length < f →
    lastN f p (Vi.frs (ps.map encP) ++ more) = (ps.getLastD p, (Vi.frs (ps.map encP)).length)
  | [], p, more, 0, _, _, hf => by omega
  | [], p, more, f + 1, _, hm, _ => by simp [Vi.frs, lastN, hm]
  | a :: ps, p, more, 0, _, _, hf => by omega
  | a :: ps, p, more, f + 1, hok, hm, hf => by
    have e1 : Vi.frs ((a :: ps).map encP) = Vi.fr (encP a) ++ Vi.frs (ps.map encP) := by simp [Vi.frs]
    have hr := Vi.fread_fr (encP a) (Vi.frs (ps.map encP) ++ more) (by have := encP_le a; omega)
    have hpos : 0 < (Vi.fr (encP a)).length := (Vi.fread_fits hr).1
    rw [e1, List.append_assoc] at hf ⊢
    have hrec := last_frs ps a more f (fun q hq => hok q (by simp [hq])) hm (by rw [List.length_append] at hf; omega)
    simp only [lastN, hr, decP_encP (hok a (by simp)), List.drop_left', hrec, List.length_append]
    rw [List.getLastD_cons]
/-- The last whole page counts. -/
theorem last_torn {ps : List Pg} {p : Pg} {k q : Nat} (hok : ∀ x ∈ ps, Ok x) (hg : (Vi.frs ((ps.map encP).take q)).length ≤ k) (hend : ps.length ≤ q ∨ k < (Vi.frs ((ps.map encP).take (q + 1))).length) :
    lastP p ((Vi.frs (ps.map encP)).take k) = ((ps.take q).getLastD p, (Vi.frs ((ps.map encP).take q)).length) := by
  obtain ⟨more, h1, h2⟩ := Vi.torn_split (ps.map encP) k q (fun r hr => by
    obtain ⟨x, _, rfl⟩ := List.mem_map.1 hr
    have := encP_le x
    omega) hg (by rw [List.length_map]; exact hend)
  rw [h1]
  unfold lastP
  rw [← List.map_take] at h1 ⊢
  exact last_frs (ps.take q) p more _ (fun x hx => hok x (List.mem_of_mem_take hx)) h2 (by omega)
end Go.Proofs.Ytcfopaphpjmopaa
