/- The walks through the reference's frames: one record. -/
import Derived.Test.YthihhmmpkbdmnaaRef9
namespace Go.Proofs.Ythihhmmpkbdmnaa
open Go.RowKit Go.Lg
set_option linter.unusedVariables false
set_option linter.unusedSimpArgs false

set_option maxHeartbeats 800000 in
set_option maxRecDepth 100000 in
theorem rRead_some (A : Option Addr) (n c : Nat) (l r : List UInt8) (t : Nat) (w : World) (h : Rd w w.heap.size 1 A n (bts l)) (hn : n ≤ 140737488354000) (hc : n ≤ c) (hcm : c ≤ maxLen) (hf : Vi.fread l = some (r, t)) :
    Calls Try.prog 33 #[.slice A n c] w (FreshAt w r t) := by
  obtain ⟨k, m, e, hs⟩ : ∃ k m e, Vi.small 131072 l = (k, m, e) := ⟨_, _, _, rfl⟩
  have hl : l.length = n := by have := h.1; rw [bts_length] at this; omega
  unfold Vi.fread at hf
  split at hf
  · cases hf
  · rename_i q
    rw [hs] at q hf
    simp only [Option.some.injEq, Prod.mk.injEq] at hf q
    obtain ⟨hr, ht⟩ := hf
    have he : e = 0 := by
      rcases Nat.eq_zero_or_pos e with h0 | h0
      · exact h0
      · exact absurd (.inl (by omega)) q
    subst he
    have hle : m + k ≤ n := by
      rcases Nat.lt_or_ge n (m + k) with h0 | h0
      · exact absurd (.inr (by omega)) q
      · exact h0
    have h1 := Vi.small_ok (m := 131072) (b := l) (by rw [hs])
    have h2 := Vi.small_len (m := 131072) (b := l) (by rw [hs])
    rw [hs] at h1 h2
    have hk : k ≤ 131072 := by have := h1.2.2; omega
    have hm : m ≤ 10 := h2.2.2
    have hrr : r = (l.take t).drop m := by rw [List.drop_take, ← hr]; congr 1; omega
    have htn : t ≤ n := by omega
    have hcm0 := hid hcm
    have HS := hid hs
    have HT := hid ht.symm
    have HR := hid hrr
    clear hs ht q hr hl h1 h2 hrr hcm
    have hA := h.alloc (Nat.le_refl _) (.cells #[.slice A n c, .int .i64 (0 : Nat), .bool false] 62)
    have hB := Blk.new w 62 #[.slice A n c, .int .i64 (0 : Nat), .bool false]
    have hBW := (Below.refl w.heap.size w).alloc (Nat.le_refl _) (.cells #[.slice A n c, .int .i64 (0 : Nat), .bool false] 62)
    go_enter Try.func33, Try.ntmps33
    go_wp2_with fail
    generalize (w.alloc (.cells #[.slice A n c, .int .i64 (0 : Nat), .bool false] 62)) = w0 at *
    refine (rSmall_ok w.heap.size A n c _ l k m w0 hB hA hBW.size hc hcm0.out HS.out hm).mono ?_
    rintro e w1 ⟨rfl, hB1, hg1⟩
    have hb1 : Below w.heap.size w w1 := hBW.grown hg1 hBW.size (by intro k hk; injection hk with hk; omega)
    have hs1 := hb1.size
    have hR1 := h.below hb1
    clear hA hB hg1
    go_wp2_with fail
    refine (rBytes_ok w.heap.size A n c m t _ k l r w1 hB1 hR1 hs1 hn hc hcm0.out HT.out htn HR.out).mono ?_
    rintro e w2 ⟨v, rfl, hv, hB2, hg2⟩
    have hb2 : Below w.heap.size w w2 := hb1.grown hg2 hs1 (by intro k hk; injection hk with hk; omega)
    have c1 := hB2.cell 1
    have c2 := hB2.cell 2
    simp only [List.getElem?_toArray, List.getElem?_cons_zero, List.getElem?_cons_succ] at c1 c2
    have HV := hid (owned_less hv hs1)
    clear hR1 hB1 hB2 hv hg2 hb1 h hBW
    go_wp2_with fail
    go_quiet (fail)
    go_wp2_with fail
    go_ret3
    exact ⟨v, rfl, HV.out, below_drewN hb2 _⟩

set_option maxHeartbeats 800000 in
set_option maxRecDepth 100000 in
theorem rRead_none (A : Option Addr) (n c : Nat) (l : List UInt8) (w : World) (h : Rd w w.heap.size 1 A n (bts l)) (hn : n ≤ 140737488354000) (hc : n ≤ c) (hcm : c ≤ maxLen) (hf : Vi.fread l = none) :
    Calls Try.prog 33 #[.slice A n c] w fun e w' => e = .returned (.tuple #[.slice none 0 0, .int .i64 0, .int .i64 5]) ∧ Below w.heap.size w w' := by
  obtain ⟨k, m, e, hs⟩ : ∃ k m e, Vi.small 131072 l = (k, m, e) := ⟨_, _, _, rfl⟩
  have hl : l.length = n := by have := h.1; rw [bts_length] at this; omega
  have hbad : e ≠ 0 ∨ n < m + k := by
    unfold Vi.fread at hf
    split at hf
    · rename_i q; rw [hs] at q; rw [hl] at q; exact q
    · cases hf
  have hA := h.alloc (Nat.le_refl _) (.cells #[.slice A n c, .int .i64 (0 : Nat), .bool false] 62)
  have hB := Blk.new w 62 #[.slice A n c, .int .i64 (0 : Nat), .bool false]
  have hBW := (Below.refl w.heap.size w).alloc (Nat.le_refl _) (.cells #[.slice A n c, .int .i64 (0 : Nat), .bool false] 62)
  rcases Nat.eq_zero_or_pos e with h0 | h0
  · subst h0
    have h1 := Vi.small_ok (m := 131072) (b := l) (by rw [hs])
    have h2 := Vi.small_len (m := 131072) (b := l) (by rw [hs])
    rw [hs] at h1 h2
    have hm : m ≤ 10 := h2.2.2
    have hmn : m ≤ n := by have q : m ≤ l.length := h2.2.1; omega
    have hfar : n < m + k := by omega
    have hcm0 := hid hcm
    have HS := hid hs
    clear hs hf h1 h2 hl hbad hcm
    go_enter Try.func33, Try.ntmps33
    go_wp2_with fail
    generalize (w.alloc (.cells #[.slice A n c, .int .i64 (0 : Nat), .bool false] 62)) = w0 at *
    refine (rSmall_ok w.heap.size A n c _ l k m w0 hB hA hBW.size hc hcm0.out HS.out hm).mono ?_
    rintro e w1 ⟨rfl, hB1, hg1⟩
    have hb1 : Below w.heap.size w w1 := hBW.grown hg1 hBW.size (by intro k hk; injection hk with hk; omega)
    have hs1 := hb1.size
    clear hA hB hg1
    go_wp2_with fail
    refine (rBytes_far w.heap.size A n c m k w1 hB1 (by omega) hmn hfar).mono ?_
    rintro e w2 ⟨rfl, hB2, hg2⟩
    have hb2 : Below w.heap.size w w2 := hb1.grown hg2 hs1 (by intro k hk; injection hk with hk; omega)
    have c2 := hB2.cell 2
    simp only [List.getElem?_toArray, List.getElem?_cons_zero, List.getElem?_cons_succ] at c2
    clear hB1 hB2 hg2 hb1 h hBW
    go_wp2_with fail
    go_ret3
    exact ⟨rfl, hb2⟩
  · have h1 := Vi.small_bad (m := 131072) (b := l) (by rw [hs]; show e ≠ 0; omega)
    rw [hs] at h1
    have HS := hid (hs.trans h1)
    have hcm0 := hid hcm
    clear hs hf h1 hl hbad hcm
    go_enter Try.func33, Try.ntmps33
    go_wp2_with fail
    generalize (w.alloc (.cells #[.slice A n c, .int .i64 (0 : Nat), .bool false] 62)) = w0 at *
    refine (rSmall_bad w.heap.size A n c _ l w0 hB hA hBW.size hc hcm0.out HS.out).mono ?_
    rintro e w1 ⟨rfl, hB1, hg1⟩
    have hb1 : Below w.heap.size w w1 := hBW.grown hg1 hBW.size (by intro k hk; injection hk with hk; omega)
    have hs1 := hb1.size
    clear hA hB hg1
    go_wp2_with fail
    refine (rBytes_bad w.heap.size A n c 0 0 w1 hB1).mono ?_
    rintro e w2 ⟨rfl, hB2, hg2⟩
    have hb2 : Below w.heap.size w w2 := hb1.grown hg2 hs1 (by intro k hk; injection hk with hk; omega)
    have c2 := hB2.cell 2
    simp only [List.getElem?_toArray, List.getElem?_cons_zero, List.getElem?_cons_succ] at c2
    clear hB1 hB2 hg2 hb1 h hBW
    go_wp2_with fail
    go_ret3
    exact ⟨rfl, hb2⟩
end Go.Proofs.Ythihhmmpkbdmnaa
