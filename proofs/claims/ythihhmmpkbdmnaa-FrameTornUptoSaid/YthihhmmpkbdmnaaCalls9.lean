/- The statement FrameCalls: the walk through its own text. -/
import Derived.Test.YthihhmmpkbdmnaaLives9
namespace Go.Proofs.Ythihhmmpkbdmnaa
open Go.RowKit Go.Lg
set_option linter.unusedVariables false
set_option linter.unusedSimpArgs false

theorem bst {a b c : World} (h : Below a.heap.size a b) (k : Below b.heap.size b c) : Below a.heap.size a c := h.trans (k.mono h.size)

/-- What framing tells: the bytes, the error. -/
def app9 (b r : List UInt8) : List UInt8 × Nat := if 131072 < r.length then ([], 3) else (b ++ Vi.fr r, 0)
/-- What reading a frame tells: the record, its length, the error. -/
def frd9 (b : List UInt8) : List UInt8 × Nat × Nat := match Vi.fread b with
  | none => ([], 0, 5)
  | some (r, m) => (r, m, 0)

def Framed9 (w : World) (out : List UInt8) (err : Nat) (e : Ending) (w' : World) : Prop :=
  ∃ v, e = .returned (.tuple #[v, .int .i64 err]) ∧ w'.ownsRow w.heap.size 5 1 v out.length (bts out) ∧ Below w.heap.size w w'
def Read9 (w : World) (out : List UInt8) (m err : Nat) (e : Ending) (w' : World) : Prop :=
  ∃ v, e = .returned (.tuple #[v, .int .i64 m, .int .i64 err]) ∧ w'.ownsRow w.heap.size 5 1 v out.length (bts out) ∧ Below w.heap.size w w'

theorem fAppend_all (A A' : Option Addr) (n c n' c' : Nat) (b r out : List UInt8) (err : Nat) (w : World) (h : Rd w w.heap.size 1 A n (bts b)) (h' : Rd w w.heap.size 1 A' n' (bts r)) (hn : n ≤ 140737488000000) (hn' : n' ≤ 140737488000000) (hout : app9 b r = (out, err)) :
    Calls Try.prog 30 #[.slice A n c, .slice A' n' c'] w (Framed9 w out err) := by
  have hl : r.length = n' := by have := h'.1; rw [bts_length] at this; omega
  unfold app9 at hout
  split at hout
  · cases hout
    refine (fAppend_long A A' n c n' c' w (by omega) (by omega)).mono ?_
    rintro e w' ⟨rfl, rfl⟩
    exact ⟨_, rfl, World.ownsRow_nil _ _ _ _, Below.refl _ _⟩
  · obtain ⟨rfl, rfl⟩ := Prod.mk.inj hout
    exact fAppend_any A A' n c n' c' b r _ w h h' hn (by omega) rfl
theorem rAppend_all (A A' : Option Addr) (n c n' c' : Nat) (b r out : List UInt8) (err : Nat) (w : World) (h : Rd w w.heap.size 1 A n (bts b)) (h' : Rd w w.heap.size 1 A' n' (bts r)) (hn : n ≤ 140737488000000) (hn' : n' ≤ 140737488000000) (hout : app9 b r = (out, err)) :
    Calls Try.prog 32 #[.slice A n c, .slice A' n' c'] w (Framed9 w out err) := by
  have hl : r.length = n' := by have := h'.1; rw [bts_length] at this; omega
  unfold app9 at hout
  split at hout
  · cases hout
    refine (rAppend_long A A' n c n' c' w (by omega) (by omega)).mono ?_
    rintro e w' ⟨rfl, rfl⟩
    exact ⟨_, rfl, World.ownsRow_nil _ _ _ _, Below.refl _ _⟩
  · obtain ⟨rfl, rfl⟩ := Prod.mk.inj hout
    exact rAppend_any A A' n c n' c' b r _ w h h' hn (by omega) rfl
theorem fRead_all (A : Option Addr) (n c : Nat) (l out : List UInt8) (m err : Nat) (w : World) (h : Rd w w.heap.size 1 A n (bts l)) (hn : n ≤ 140737488354000) (hc : n ≤ c) (hcm : c ≤ maxLen) (hf : frd9 l = (out, m, err)) :
    Calls Try.prog 28 #[.slice A n c] w (Read9 w out m err) := by
  unfold frd9 at hf
  split at hf
  · rename_i q
    cases hf
    refine (fRead_none A n c _ l w h (by omega) q).mono ?_
    rintro e w' ⟨rfl, rfl⟩
    exact ⟨_, rfl, World.ownsRow_nil _ _ _ _, Below.refl _ _⟩
  · rename_i q
    cases hf
    exact fRead_some A n c l _ _ w h (by omega) hc hcm q
theorem rRead_all (A : Option Addr) (n c : Nat) (l out : List UInt8) (m err : Nat) (w : World) (h : Rd w w.heap.size 1 A n (bts l)) (hn : n ≤ 140737488354000) (hc : n ≤ c) (hcm : c ≤ maxLen) (hf : frd9 l = (out, m, err)) :
    Calls Try.prog 33 #[.slice A n c] w (Read9 w out m err) := by
  unfold frd9 at hf
  split at hf
  · rename_i q
    cases hf
    refine (rRead_none A n c l w h (by omega) hc hcm q).mono ?_
    rintro e w' ⟨rfl, hb⟩
    exact ⟨_, rfl, World.ownsRow_nil _ _ _ _, hb⟩
  · rename_i q
    cases hf
    exact rRead_some A n c l _ _ w h (by omega) hc hcm q

theorem app9_len {b r out : List UInt8} {err : Nat} (h : app9 b r = (out, err)) : out.length ≤ b.length + r.length + 10 := by
  unfold app9 at h
  split at h
  · cases h; simp
  · obtain ⟨rfl, _⟩ := Prod.mk.inj h
    have := Vi.encF_len_le 9 r.length
    simp only [Vi.fr, Vi.enc, List.length_append]; omega
theorem frd9_len {b out : List UInt8} {m err : Nat} (h : frd9 b = (out, m, err)) : out.length ≤ 131072 := by
  unfold frd9 at h
  split at h
  · cases h; simp
  · rename_i q
    cases h
    exact (Vi.fread_fits q).2.2.1

theorem pairs4 {a b c d : Value} {R : Value → Value → Prop} (h1 : R a b) (h2 : R a c) (h3 : R a d) (h4 : R b c) (h5 : R b d) (h6 : R c d) : [a, b, c, d].Pairwise R := by
  simp [h1, h2, h3, h4, h5, h6]
theorem rows4 {Q : Value → List UInt8 → Prop} {a b c d : Value} {la lb lc ld : List UInt8} (h1 : Q a la) (h2 : Q b lb) (h3 : Q c lc) (h4 : Q d ld) :
    ∀ (i : Nat) v l, [a, b, c, d][i]? = some v → [la, lb, lc, ld][i]? = some l → Q v l := by
  intro i v l hv hl
  match i, hv, hl with
  | 0, hv, hl => simp at hv hl; subst hv hl; exact h1
  | 1, hv, hl => simp at hv hl; subst hv hl; exact h2
  | 2, hv, hl => simp at hv hl; subst hv hl; exact h3
  | 3, hv, hl => simp at hv hl; subst hv hl; exact h4
  | i + 4, hv, _ => simp at hv

set_option maxHeartbeats 800000 in
set_option maxRecDepth 100000 in
theorem calls9_walk (A A' : Option Addr) (n c n' c' : Nat) (l l' : List UInt8) (w : World) (h : Rd w w.heap.size 1 A n (bts l)) (h' : Rd w w.heap.size 1 A' n' (bts l')) (hn : n ≤ 140000000000000) (hn' : n' ≤ 140000000) (hc : n ≤ c) (hcm : c ≤ maxLen) :
    Calls Try.prog 9 #[.slice A n c, .slice A' n' c'] w fun e w' => e = .returned (.bool true) ∧ Below w.heap.size w w' := by
  have hl := h.1
  rw [bts_length, Nat.mul_one] at hl
  have hl' := h'.1
  rw [bts_length, Nat.mul_one] at hl'
  have hll := lent_length l
  have hll' := lent_length l'
  have HL := hid hl
  have HL' := hid hl'
  have hge : n ≤ (lent l).length := by omega
  have hle : (lent l).length ≤ 140737488350000 := by omega
  have hge' : n' ≤ (lent l').length := by omega
  have hle' : (lent l').length ≤ 140737488350000 := by omega
  obtain ⟨ax, e1, hax⟩ : ∃ ax e1, app9 l l' = (ax, e1) := ⟨_, _, rfl⟩
  obtain ⟨rx, m, e2, hrx⟩ : ∃ rx m e2, frd9 l = (rx, m, e2) := ⟨_, _, _, rfl⟩
  have hae := app9_len hax
  have hre := frd9_len hrx
  have hae2 : ax.length ≤ 140737488350000 := by omega
  have HAX := hid hax
  have HRX := hid hrx
  have hcm0 := hid hcm
  unfold maxLen at hcm
  clear hl hl' hll hll' hax hrx hae
  go_enter Try.func9, Try.ntmps9
  go_wp2_with fail
  refine (lent_any A n c l w h (by omega)).mono ?_
  rintro e w1 ⟨f, rfl, hf, hb1⟩
  obtain ⟨A1, c1, rfl, h3, h4⟩ := owned_slice hf
  have h1' := (h'.below hb1).more hb1.size
  go_wp2_with fail
  refine (lent_any A' n' c' l' w1 h1' (by omega)).mono ?_
  rintro e w2 ⟨o, rfl, ho, hb2⟩
  obtain ⟨A2, c2, rfl, h5, h6⟩ := owned_slice ho
  have hf2 := owned_later hf hb2
  have hrf := Rd.of_own hf2
  have hro := Rd.of_own ho
  have hrt := hrf.take hge
  rw [lent_take l n HL.out] at hrt
  have hrt' := hro.take hge'
  rw [lent_take l' n' HL'.out] at hrt'
  have b02 := bst hb1 hb2
  have p60 := (apart_made hf ho (Nat.le_refl _)).1
  have HP6 := hid p60
  have HF := hid hf2
  have HO := hid ho
  have h4c := hid h4
  have h6c := hid h6
  unfold maxLen at h4 h6
  clear hf ho hf2 h1' p60
  have i1 : (n : Int) ≤ (c1 : Int) := by omega
  have i2 : (n' : Int) ≤ (c2 : Int) := by omega
  go_wp2_with fail
  go_region_held3 (fun _ => True) (trivial)
    (first
      | (go_at_call 30; refine (fAppend_all A1 A2 n c1 n' c2 l l' ax e1 _ hrt.drew hrt'.drew (by omega) (by omega) HAX.out).mono ?_; rintro e w3 ⟨a, rfl, ha, hb3⟩))
  have hb3' : Below w2.heap.size w2 w3 := below_src hb3
  have ha3 : w3.ownsRow w2.heap.size 5 1 a ax.length (bts ax) := ha
  obtain ⟨A3, c3, rfl, h7, h8⟩ := owned_slice ha3
  have HA := hid ha3
  have b03 := bst b02 hb3'
  have b23 := hb3'
  clear hb3 ha ha3 hb3'
  go_wp2_with fail
  refine (rAppend_all A A' n c n' c' l l' ax e1 w3 ((h.below b03).more b03.size) ((h'.below b03).more b03.size) (by omega) (by omega) HAX.out).mono ?_
  rintro e w4 ⟨ca, rfl, hca, hb4⟩
  obtain ⟨A4, c4, rfl, h9, h10⟩ := owned_slice hca
  have hrca := Rd.of_own hca
  have b04 := bst b03 hb4
  have b24 := bst b23 hb4
  have hrt4 := (hrt.below b24).more b24.size
  clear hca
  go_wp2_with fail
  refine (fRead_all A1 n c1 l rx m e2 w4 hrt4 (by omega) (by omega) h4c.out HRX.out).mono ?_
  rintro e w5 ⟨r, rfl, hr, hb5⟩
  obtain ⟨A5, c5, rfl, h11, h12⟩ := owned_slice hr
  have hrr := Rd.of_own hr
  have HR := hid hr
  have b05 := bst b04 hb5
  clear hr hrt4 hrt
  go_wp2_with fail
  refine (rRead_all A n c l rx m e2 w5 ((h.below b05).more b05.size) (by omega) hc hcm0.out HRX.out).mono ?_
  rintro e w6 ⟨s, rfl, hs, hb6⟩
  obtain ⟨A6, c6, rfl, h13, h14⟩ := owned_slice hs
  have hrs := Rd.of_own hs
  clear hs
  go_wp2_with fail
  refine (lives9_any w6).mono ?_
  rintro e w7 ⟨rfl, hb7⟩
  have b67 := hb7
  have b57 := bst hb6 b67
  have b47 := bst hb5 b57
  have b37 := bst hb4 b47
  have b27 := bst b23 b37
  have b17 := bst hb2 b27
  have b07 := bst hb1 b17
  have hra7 := (Rd.of_own HA.out).below b37
  have hrca7 := hrca.below b47
  clear hrca
  go_wp2_with fail
  refine (same_self _ _ _ _ _ _ _ _ ax w7 hra7 hrca7 (by omega) (by omega)).mono ?_
  rintro e w8 ⟨rfl, d, rfl⟩
  have hrr8 := (hrr.below b57).drewN d
  have hrs8 := (hrs.below b67).drewN d
  clear hra7 hrca7 hrr hrs
  go_wp2_with fail
  refine (same_self _ _ _ _ _ _ _ _ rx _ hrr8 hrs8 (by omega) (by omega)).mono ?_
  rintro e w9 ⟨rfl, d2, rfl⟩
  rw [World.drewN_drewN]
  have c27 := below_drewN b27 (d + d2)
  have c57 := below_drewN b57 (d + d2)
  have c37 := below_drewN b37 (d + d2)
  have c07 := below_drewN b07 (d + d2)
  generalize w7.drewN (d + d2) = w8 at *
  clear hrr8 hrs8 b67 b57 b47 b37 b27 b17 b07
  have hrf8 := (hrf.below c27).more c27.size
  have hro8 := (hro.below c27).more c27.size
  have h8 := (h.below c07).more c07.size
  have h8' := (h'.below c07).more c07.size
  go_wp2_with fail
  refine (kept_self _ _ _ _ _ _ l _ hrf8 h8 (by omega) (by omega)).mono ?_
  rintro e w9 ⟨rfl, hb9⟩
  have hro9 := (hro8.below hb9).more hb9.size
  have h9' := (h8'.below hb9).more hb9.size
  clear hrf8 hro8 h8 h8' hrf hro
  go_wp2_with fail
  refine (kept_self _ _ _ _ _ _ l' _ hro9 h9' (by omega) (by omega)).mono ?_
  rintro e w10 ⟨rfl, hb10⟩
  have b810 := bst hb9 hb10
  have d27 := bst c27 b810
  have d37 := bst c37 b810
  have d57 := bst c57 b810
  have d07 := bst c07 b810
  have hs1 := hb1.size
  have hs2 := b02.size
  have hs4 := b04.size
  have hf10 := owned_later HF.out d27
  have ho10 := owned_less (owned_later HO.out d27) hs1
  have ha10 := owned_less (owned_later HA.out d37) hs2
  have hr10 := owned_less (owned_later HR.out d57) hs4
  have p1 := apart_made HF.out HA.out (Nat.le_refl _)
  have p2 := apart_made HO.out HA.out (Nat.le_refl _)
  have p3 := apart_made HF.out HR.out b24.size
  have p4 := apart_made HO.out HR.out b24.size
  have p5 := apart_made HA.out HR.out hb4.size
  have HP1 := hid p1
  have HP2 := hid p2
  have HP3 := hid p3
  have HP4 := hid p4
  have HP5 := hid p5
  have HF10 := hid hf10
  have HO10 := hid ho10
  have HA10 := hid ha10
  have HR10 := hid hr10
  have hs10 := d07.size
  clear p1 p2 p3 p4 p5 hf10 ho10 ha10 hr10 hro9 h9'
  go_wp2_with fail
  refine (apart_any w.heap.size 4 4 _ [_, _, _, _] [ax, rx, lent l, lent l'] _ (Rd.lit0 (sz := 1) w10 _ 22 4 rfl) (by omega) rfl ?_ (rows4 (HA10.out.alloc _) (HR10.out.alloc _) (HF10.out.alloc _) (HO10.out.alloc _)) (apart_of_pairs (pairs4 HP5.out.1 HP1.out.2 HP2.out.2 HP3.out.2 HP4.out.2 HP6.out)) ?_ (by simp; omega)).mono ?_
  · intro q hq
    simp at hq
    rcases hq with rfl | rfl | rfl | rfl <;> omega
  · intro q off hq v hv hv2
    simp at hq
    simp at hv
    rcases hv with rfl | rfl | rfl | rfl
    · have := (HA10.out.lt q hv2).2; omega
    · have := (HR10.out.lt q hv2).2; omega
    · have := (HF10.out.lt q hv2).2; omega
    · have := (HO10.out.lt q hv2).2; omega
  · rintro e w11 ⟨rfl, hb11⟩
    go_wp2_with fail
    go_ret
    exact ⟨rfl, (d07.alloc hs10 _).trans hb11⟩
end Go.Proofs.Ythihhmmpkbdmnaa
