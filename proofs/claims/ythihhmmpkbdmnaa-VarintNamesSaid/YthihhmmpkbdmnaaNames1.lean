/- The statement VarintNames: the walk through its own text. -/
import Derived.Test.YthihhmmpkbdmnaaLaw2
namespace Go.Proofs.Ythihhmmpkbdmnaa
open Go.RowKit Go.Lg

/-- What the first loop finds at place j. -/
def Told (w : World) (B N T : Nat) (j : Nat) : Prop :=
  ∃ (x : Nat) (A : Option Addr) (n c : Nat) (ax : List UInt8), w.cell? ⟨N, j, none⟩ = some (.int .u64 x) ∧ w.cell? ⟨T, j, none⟩ = some (.slice A n c) ∧ Rd w B 1 A n (bts ax) ∧ ax = Vi.enc x ∧ x < 2 ^ 64 ∧ n ≤ 10 ∧ N < B ∧ T < B
theorem Told.below {w w' : World} {B N T j : Nat} (h : Told w B N T j) (hb : Below B w w') : Told w' B N T j := by
  obtain ⟨x, A, n, c, ax, h1, h2, h3, h4, h5, h6, h7, h8⟩ := h
  exact ⟨x, A, n, c, ax, (hb.cell (p := ⟨N, j, none⟩) h7).trans h1, (hb.cell (p := ⟨T, j, none⟩) h8).trans h2, h3.below hb, h4, h5, h6, h7, h8⟩

theorem append_nil (x : Nat) (ax : List UInt8) (w : World) (hax : ax = Vi.enc x) (hx : x < 2 ^ 64) : Calls Try.prog 14 #[.slice none 0 0, .int .u64 x] w (Fresh w ax) :=
  append_as none 0 0 [] ax x w (by rw [List.nil_append]; exact hax) Rd.nil_ (by omega) hx

theorem cell_new (w : World) (cs : Array Value) (t : TypeId) (i b : Nat) (hb : b = w.heap.size) : (w.alloc (.cells cs t)).cell? ⟨b, i, none⟩ = cs[i]? := by
  subst hb; exact World.cell?_alloc_new w cs t i
theorem cell_old (w : World) (o : Obj) (i b : Nat) (hb : b < w.heap.size) : (w.alloc o).cell? ⟨b, i, none⟩ = w.cell? ⟨b, i, none⟩ := World.cell?_alloc_lt w o _ hb

def W5 (w : World) : World :=
  (((((w.alloc (.cells #[.int .u64 0, .int .u64 127, .int .u64 128, .int .u64 300] 23)).alloc (.cells #[.int .u8 0] 5)).alloc (.cells #[.int .u8 127] 5)).alloc
    (.cells #[.int .u8 128, .int .u8 1] 5)).alloc (.cells #[.int .u8 172, .int .u8 2] 5)).alloc
    (.cells #[.slice (some ⟨w.heap.size + 1, 0, none⟩) 1 1, .slice (some ⟨w.heap.size + 1 + 1, 0, none⟩) 1 1, .slice (some ⟨w.heap.size + 1 + 1 + 1, 0, none⟩) 2 2, .slice (some ⟨w.heap.size + 1 + 1 + 1 + 1, 0, none⟩) 2 2] 22)

theorem W5_below (w : World) : Below w.heap.size w (W5 w) :=
  ((((((Below.refl _ _).alloc (Nat.le_refl _) _).alloc (by simp) _).alloc (by simp <;> omega) _).alloc (by simp <;> omega) _).alloc (by simp <;> omega) _).alloc (by simp <;> omega) _
theorem W5_size (w : World) : (W5 w).heap.size = w.heap.size + 6 := by simp [W5]

theorem told_all (w : World) (j : Nat) (hj : j < 4) : Told (W5 w) (W5 w).heap.size w.heap.size (w.heap.size + 1 + 1 + 1 + 1 + 1) j := by
  have hz := W5_size w
  have e1 : ∀ i, (W5 w).cell? ⟨w.heap.size, i, none⟩ = (#[Value.int .u64 0, .int .u64 127, .int .u64 128, .int .u64 300] : Array Value)[i]? := by
    intro i
    unfold W5
    rw [cell_old _ _ _ _ (by simp <;> omega), cell_old _ _ _ _ (by simp <;> omega), cell_old _ _ _ _ (by simp <;> omega), cell_old _ _ _ _ (by simp <;> omega), cell_old _ _ _ _ (by simp), cell_new _ _ _ _ _ rfl]
  have e2 : ∀ i, (W5 w).cell? ⟨w.heap.size + 1 + 1 + 1 + 1 + 1, i, none⟩ = (#[.slice (some ⟨w.heap.size + 1, 0, none⟩) 1 1, .slice (some ⟨w.heap.size + 1 + 1, 0, none⟩) 1 1, .slice (some ⟨w.heap.size + 1 + 1 + 1, 0, none⟩) 2 2, .slice (some ⟨w.heap.size + 1 + 1 + 1 + 1, 0, none⟩) 2 2] : Array Value)[i]? := by
    intro i
    unfold W5
    rw [cell_new _ _ _ _ _ (by simp)]
  have a1 := lit_rd (w.alloc (.cells #[.int .u64 0, .int .u64 127, .int .u64 128, .int .u64 300] 23)) [0] #[.int .u8 0] rfl
  have a2 := lit_rd ((w.alloc (.cells #[.int .u64 0, .int .u64 127, .int .u64 128, .int .u64 300] 23)).alloc (.cells #[.int .u8 0] 5)) [127] #[.int .u8 127] rfl
  have a3 := lit_rd (((w.alloc (.cells #[.int .u64 0, .int .u64 127, .int .u64 128, .int .u64 300] 23)).alloc (.cells #[.int .u8 0] 5)).alloc (.cells #[.int .u8 127] 5)) [128, 1] #[.int .u8 128, .int .u8 1] rfl
  have a4 := lit_rd ((((w.alloc (.cells #[.int .u64 0, .int .u64 127, .int .u64 128, .int .u64 300] 23)).alloc (.cells #[.int .u8 0] 5)).alloc (.cells #[.int .u8 127] 5)).alloc
    (.cells #[.int .u8 128, .int .u8 1] 5)) [172, 2] #[.int .u8 172, .int .u8 2] rfl
  simp only [World.size_alloc] at a1 a2 a3 a4
  match j, hj with
  | 0, _ =>
    refine ⟨0, _, 1, 1, [0], e1 0, e2 0, ?_, by decide +kernel, by decide, by omega, by omega, by omega⟩
    rw [hz]
    exact ((((a1.alloc (by simp) _).alloc (by simp <;> omega) _).alloc (by simp <;> omega) _).alloc (by simp <;> omega) _).more (by omega)
  | 1, _ =>
    refine ⟨127, _, 1, 1, [127], e1 1, e2 1, ?_, by decide +kernel, by decide, by omega, by omega, by omega⟩
    rw [hz]
    exact (((a2.alloc (by simp) _).alloc (by simp <;> omega) _).alloc (by simp <;> omega) _).more (by omega)
  | 2, _ =>
    refine ⟨128, _, 2, 2, [128, 1], e1 2, e2 2, ?_, by decide +kernel, by decide, by omega, by omega, by omega⟩
    rw [hz]
    exact ((a3.alloc (by simp) _).alloc (by simp <;> omega) _).more (by omega)
  | 3, _ =>
    refine ⟨300, _, 2, 2, [172, 2], e1 3, e2 3, ?_, by decide +kernel, by decide, by omega, by omega, by omega⟩
    rw [hz]
    exact (a4.alloc (by simp) _).more (by omega)

theorem below_src {B : Nat} {a b : World} (h : Below B a.drew b) : Below B a b := ⟨h.os, h.tape, h.output, h.size, h.block⟩

/-- What the second loop finds at place j. -/
def Bad (w : World) (B T : Nat) (j : Nat) : Prop :=
  ∃ (A : Option Addr) (n c : Nat) (l : List UInt8), w.cell? ⟨T, j, none⟩ = some (.slice A n c) ∧ Rd w B 1 A n (bts l) ∧ Vi.dec 0 0 l = (0, 0, 5) ∧ n ≤ 100

theorem bad_all {w : World} {B T : Nat} {A1 A2 A3 A4 : Option Addr} {n1 n2 n3 n4 c1 c2 c3 c4 : Nat} {l1 l2 l3 l4 : List UInt8}
    (hT : ∀ i, w.cell? ⟨T, i, none⟩ = (#[.slice none 0 0, .slice A1 n1 c1, .slice A2 n2 c2, .slice A3 n3 c3, .slice A4 n4 c4] : Array Value)[i]?)
    (h1 : Rd w B 1 A1 n1 (bts l1)) (h2 : Rd w B 1 A2 n2 (bts l2)) (h3 : Rd w B 1 A3 n3 (bts l3)) (h4 : Rd w B 1 A4 n4 (bts l4))
    (d1 : Vi.dec 0 0 l1 = (0, 0, 5)) (d2 : Vi.dec 0 0 l2 = (0, 0, 5)) (d3 : Vi.dec 0 0 l3 = (0, 0, 5)) (d4 : Vi.dec 0 0 l4 = (0, 0, 5)) (b1 : n1 ≤ 100) (b2 : n2 ≤ 100) (b3 : n3 ≤ 100) (b4 : n4 ≤ 100)
    (j : Nat) (hj : j < 5) : Bad w B T j := by
  match j, hj with
  | 0, _ => exact ⟨_, _, _, [], hT 0, Rd.nil_, rfl, by omega⟩
  | 1, _ => exact ⟨_, _, _, l1, hT 1, h1, d1, b1⟩
  | 2, _ => exact ⟨_, _, _, l2, hT 2, h2, d2, b2⟩
  | 3, _ => exact ⟨_, _, _, l3, hT 3, h3, d3, b3⟩
  | 4, _ => exact ⟨_, _, _, l4, hT 4, h4, d4, b4⟩

theorem small300 (w : World) (B : Nat) (A : Option Addr) (n c : Nat) (h : Rd w B 1 A n (bts [172, 2])) (hn : n ≤ 100) :
    Calls Try.prog 25 #[.slice A n c, .int .i64 300] w fun e w' => e = .returned (.tuple #[.int .i64 300, .int .i64 2, .int .i64 0]) ∧ w = w' :=
  small_at A n c B [172, 2] 300 300 2 0 w h (by omega) (by decide) (by decide +kernel)
theorem small299 (w : World) (B : Nat) (A : Option Addr) (n c : Nat) (h : Rd w B 1 A n (bts [172, 2])) (hn : n ≤ 100) :
    Calls Try.prog 25 #[.slice A n c, .int .i64 299] w fun e w' => e = .returned (.tuple #[.int .i64 0, .int .i64 0, .int .i64 5]) ∧ w = w' :=
  small_at A n c B [172, 2] 299 0 0 5 w h (by omega) (by decide) (by decide +kernel)

def nine : List UInt8 := [255, 255, 255, 255, 255, 255, 255, 255, 255]
theorem readMax (w : World) (B : Nat) (A : Option Addr) (n c : Nat) (h : Rd w B 1 A n (bts (nine ++ [1]))) (hn : n ≤ 100) :
    Calls Try.prog 22 #[.slice A n c] w fun e w' => e = .returned (.tuple #[.int .u64 18446744073709551615, .int .i64 10, .int .i64 0]) ∧ w = w' :=
  read_at A n c B (nine ++ [1]) 18446744073709551615 10 0 w h (by omega) (by decide +kernel)

set_option maxHeartbeats 800000 in
set_option maxRecDepth 100000 in
theorem names_walk (w : World) : Calls Try.prog 6 #[] w fun e w' => e = .returned (.bool true) ∧ Below w.heap.size w w' := by
  have hT := told_all w
  have hbW := W5_below w
  go_enter Try.func6, Try.ntmps6
  go_wp2_with fail
  change Code.wp _ _ _ _ (W5 w)
  generalize W5 w = W at hT hbW ⊢
  have HT := hid hT
  clear hT
  obtain ⟨N, hN⟩ : ∃ N, N = w.heap.size := ⟨_, rfl⟩
  have HN := hid hN
  rw [← hN] at HT ⊢
  obtain ⟨T, hTT⟩ : ∃ T, T = N + 1 + 1 + 1 + 1 + 1 := ⟨_, rfl⟩
  rw [← hTT] at HT ⊢
  clear hTT hN
  go_loopg [3] 4 (fun k i wr => ∃ j : Nat, j ≤ 4 ∧ k = 4 - j ∧ i = .int .i64 j ∧ Below W.heap.size W wr)
  case atStart => exact ⟨0, by omega, rfl, rfl, Below.refl _ _⟩
  case round =>
    obtain ⟨j, hj, rfl, rfl, hb⟩ := hrel
    by_cases hlt : j < 4
    · obtain ⟨x, A, n, c, ax, h1, h2, h3, h4, h5, h6, h7, h8⟩ := (HT.out j hlt).below hb
      have HX := hid h5
      have HAX := hid h4
      have hji : (j : Int) < (4 : Int) := by omega
      have hs := hb.size
      have hal : ax.length ≤ 10 := by have := h3.1; rw [bts_length] at this; omega
      clear h4 h5 hlt
      go_wp2_with fail
      go_region_held3 (fun w' => w'.cell? ⟨N, j, none⟩ = some (.int .u64 x) ∧ w'.cell? ⟨T, j, none⟩ = some (.slice A n c)) (first | exact ⟨h1, h2⟩ | exact ⟨q1, q2⟩)
        (first
          | (go_at_call 14; refine (append_nil x ax _ HAX.out HX.out).mono ?_; rintro e w2 ⟨v, rfl, ho, hb2⟩; obtain ⟨A1, c1, rfl, g3, g4⟩ := owned_slice ho; have q1 := (hb2.cell (p := ⟨N, j, none⟩) (by simp; omega)).trans h1; have q2 := (hb2.cell (p := ⟨T, j, none⟩) (by simp; omega)).trans h2)
          | (go_at_call 16; refine (same_self _ _ _ _ _ _ _ _ ax _ (Rd.of_own ho) ((h3.drew).below (hb2.mono (by simp; omega))) (by omega) (by omega)).mono ?_; rintro e w3 ⟨rfl, d, rfl⟩))
      have hb3 := hb.trans ((below_src hb2).mono (by simp <;> omega))
      go_wp2_with fail
      go_roundg (4 - (j + 1))
      case measure => omega
      case rel => exact ⟨j + 1, by omega, rfl, by go_num, below_drewN hb3 d⟩
    · obtain rfl : j = 4 := by omega
      have hbb := hbW.trans (hb.mono hbW.size)
      clear hb hlt hj HT hbW
      obtain ⟨w0, hw0⟩ : ∃ w0, w0 = wr := ⟨_, rfl⟩
      rw [← hw0] at hbb ⊢
      clear hw0
      have o9 : (((w0.alloc (.cells #[.int .u8 255, .int .u8 255, .int .u8 255, .int .u8 255, .int .u8 255, .int .u8 255, .int .u8 255, .int .u8 255, .int .u8 255] 5)).alloc (.cells #[.int .u8 128] 5)).alloc (.cells #[.int .u8 128, .int .u8 0] 5)).ownsRow w0.heap.size 5 1 (.slice (some ⟨w0.heap.size, 0, none⟩) 9 9) 9 (bts nine) :=
        ((World.ownsRow_lit w0 #[.int .u8 255, .int .u8 255, .int .u8 255, .int .u8 255, .int .u8 255, .int .u8 255, .int .u8 255, .int .u8 255, .int .u8 255] 9 (Nat.le_refl _) (by decide) rfl).alloc _).alloc _
      have a1 := lit_rd (w0.alloc (.cells #[.int .u8 255, .int .u8 255, .int .u8 255, .int .u8 255, .int .u8 255, .int .u8 255, .int .u8 255, .int .u8 255, .int .u8 255] 5)) [128] #[.int .u8 128] rfl
      have a2 := lit_rd ((w0.alloc (.cells #[.int .u8 255, .int .u8 255, .int .u8 255, .int .u8 255, .int .u8 255, .int .u8 255, .int .u8 255, .int .u8 255, .int .u8 255] 5)).alloc (.cells #[.int .u8 128] 5)) [128, 0] #[.int .u8 128, .int .u8 0] rfl
      have a1' := a1.alloc (by simp) (.cells #[.int .u8 128, .int .u8 0] 5)
      clear a1
      simp only [World.size_alloc] at a1' a2
      have hbq : Below w.heap.size w (((w0.alloc (.cells #[.int .u8 255, .int .u8 255, .int .u8 255, .int .u8 255, .int .u8 255, .int .u8 255, .int .u8 255, .int .u8 255, .int .u8 255] 5)).alloc (.cells #[.int .u8 128] 5)).alloc (.cells #[.int .u8 128, .int .u8 0] 5)) :=
        ((hbb.alloc hbb.size _).alloc (by have := hbb.size; simp; omega) _).alloc (by have := hbb.size; simp; omega) _
      go_wp2_with fail
      obtain ⟨w1, hw1⟩ : ∃ w1, w1 = ((w0.alloc (.cells #[.int .u8 255, .int .u8 255, .int .u8 255, .int .u8 255, .int .u8 255, .int .u8 255, .int .u8 255, .int .u8 255, .int .u8 255] 5)).alloc (.cells #[.int .u8 128] 5)).alloc (.cells #[.int .u8 128, .int .u8 0] 5) := ⟨_, rfl⟩
      have hz1 : w1.heap.size = w0.heap.size + 3 := by rw [hw1]; simp
      rw [← hw1] at o9 a1' a2 hbq ⊢
      have hz2 : w0.heap.size + 3 ≤ w1.heap.size := by omega
      have hq0 : w.heap.size ≤ w0.heap.size := hbb.size
      clear hw1 hz1 hbb
      generalize w0.heap.size = Q at o9 a1' a2 hz2 hq0 ⊢
      have b9 := Rd.of_own o9
      have n9 : nine.length = 9 := rfl
      refine (copy_any _ 9 9 nine w1 b9 (by omega)).mono ?_
      rintro e w2 ⟨u1, rfl, hu1, hb2⟩
      have HU1 := hid hu1
      clear hu1
      have hs2 := hb2.size
      go_wp2_with (at_builtin; refine stop_ (fun Ps hPs => ?_))
      refine hPs ?_
      clear hPs Ps
      refine wpList_app1 T22 (.tmp 44) (.tmp 45) rfl rfl HU1.out rfl rfl rfl (by simp [Value.oneCell']) (by decide) (by omega) fun v1 w3 hv1 hg1 hat1 => ?_
      have hb3 : Below w1.heap.size w1 w3 := below_append hb2 HU1.out hg1 (by omega)
      clear hg1 hat1 hb2 HU1
      have hs3 := hb3.size
      have b9' := (b9.below hb3).more hb3.size
      go_wp2_with fail
      refine (copy_any _ 9 9 nine w3 b9' (by omega)).mono ?_
      rintro e w4 ⟨u2, rfl, hu2, hb4⟩
      have HU2 := hid hu2
      clear hu2
      have hs4 := hb4.size
      go_wp2_with (at_builtin; refine stop_ (fun Ps hPs => ?_))
      refine hPs ?_
      clear hPs Ps
      refine wpList_app1 T22 (.tmp 48) (.tmp 49) rfl rfl HU2.out rfl rfl rfl (by simp [Value.oneCell']) (by decide) (by omega) fun v2 w5 hv2 hg2 hat2 => ?_
      have hb5 : Below w3.heap.size w3 w5 := below_append hb4 HU2.out hg2 (by omega)
      clear hg2 hat2 hb4 HU2
      have hs5 := hb5.size
      have hb15 := hb3.trans (hb5.mono hs3)
      have hv1' := owned_later hv1 hb5
      obtain ⟨A1, c1, rfl, g1, g2⟩ := owned_slice hv1'
      obtain ⟨A2, c2, rfl, g3, g4⟩ := owned_slice hv2
      have p1 := (((a1'.more (show Q + 1 + 1 ≤ w1.heap.size by omega)).below hb15).more hb15.size)
      have p2 := (((a2.more (show Q + 1 + 1 + 1 ≤ w1.heap.size by omega)).below hb15).more hb15.size)
      have p3 := Rd.of_own hv1'
      have p4 := Rd.of_own hv2
      have e3 : bts nine ++ (#[Value.int .u8 255] : Array Value).toList = bts (nine ++ [255]) := rfl
      have e4 : bts nine ++ (#[Value.int .u8 2] : Array Value).toList = bts (nine ++ [2]) := rfl
      rw [e3] at p3
      rw [e4] at p4
      have hbad := fun o => bad_all (w := w5.alloc (.cells #[.slice none 0 0, .slice (some ⟨Q + 1, 0, none⟩) 1 1, .slice (some ⟨Q + 1 + 1, 0, none⟩) 2 2, .slice A1 (nine.length + 1) c1, .slice A2 (nine.length + 1) c2] 22)) (T := w5.heap.size)
        (fun i => cell_new _ _ _ _ _ rfl) (p1.alloc (Nat.le_refl _) _) (p2.alloc (Nat.le_refl _) _) (p3.alloc (Nat.le_refl _) _) (p4.alloc (Nat.le_refl _) _)
        (by decide +kernel) (by decide +kernel) (by decide +kernel) (by decide +kernel) (by decide) (by decide) (by decide) (by decide) o
      have o9' := (owned_later o9 hb15).alloc (.cells #[.slice none 0 0, .slice (some ⟨Q + 1, 0, none⟩) 1 1, .slice (some ⟨Q + 1 + 1, 0, none⟩) 2 2, .slice A1 (nine.length + 1) c1, .slice A2 (nine.length + 1) c2] 22)
      have b05 := (hbq.trans (hb15.mono hbq.size)).alloc (by have := hbq.size; omega) (.cells #[.slice none 0 0, .slice (some ⟨Q + 1, 0, none⟩) 1 1, .slice (some ⟨Q + 1 + 1, 0, none⟩) 2 2, .slice A1 (nine.length + 1) c1, .slice A2 (nine.length + 1) c2] 22)
      have HBAD := hid hbad
      have HO9 := hid o9'
      clear hbad o9 o9' p1 p2 p3 p4 e3 e4 b9 b9' a1' a2 hv1 hv1' hv2 n9
      go_wp2_with fail
      have hz6 : Q + 3 ≤ (w5.alloc (.cells #[.slice none 0 0, .slice (some ⟨Q + 1, 0, none⟩) 1 1, .slice (some ⟨Q + 1 + 1, 0, none⟩) 2 2, .slice A1 (nine.length + 1) c1, .slice A2 (nine.length + 1) c2] 22)).heap.size := by simp; omega
      generalize w5.alloc (.cells #[.slice none 0 0, .slice (some ⟨Q + 1, 0, none⟩) 1 1, .slice (some ⟨Q + 1 + 1, 0, none⟩) 2 2, .slice A1 (nine.length + 1) c1, .slice A2 (nine.length + 1) c2] 22) = w6 at HBAD HO9 b05 hz6 ⊢
      generalize w5.heap.size = T2 at HBAD ⊢
      clear hb15 hs5 hb5 hs4 hs3 hb3 hs2 hz2 hbq g1 g2 g3 g4
      go_loopg [6] 5 (fun k i wr => ∃ j : Nat, j ≤ 5 ∧ k = 5 - j ∧ i = .int .i64 j ∧ wr = w6)
      case atStart => exact ⟨0, by omega, rfl, rfl, rfl⟩
      case round =>
        obtain ⟨j, hj, rfl, rfl, hwr⟩ := hrel
        subst hwr
        by_cases hlt : j < 5
        · obtain ⟨A, n, c, l, h1, h2, h3, h4⟩ := HBAD.out j hlt
          have HD := hid h3
          clear h3
          go_wp2_with fail
          refine (read_at A n c _ l 0 0 5 _ h2 (by omega) HD.out).mono ?_
          rintro e w7 ⟨rfl, rfl⟩
          go_wp2_with fail
          go_roundg (5 - (j + 1))
          case measure => omega
          case rel => exact ⟨j + 1, by omega, rfl, by go_num, rfl⟩
        · obtain rfl : j = 5 := by omega
          have l1 := lit_rd wr [172, 2] #[.int .u8 172, .int .u8 2] rfl
          have l2 := lit_rd (wr.alloc (.cells #[.int .u8 172, .int .u8 2] 5)) [172, 2] #[.int .u8 172, .int .u8 2] rfl
          simp only [World.size_alloc] at l2
          have hs6 := b05.size
          have o7 := (HO9.out.alloc (.cells #[.int .u8 172, .int .u8 2] 5)).alloc (.cells #[.int .u8 172, .int .u8 2] 5)
          have b07 := (b05.alloc hs6 (.cells #[.int .u8 172, .int .u8 2] 5)).alloc (by simp; omega) (.cells #[.int .u8 172, .int .u8 2] 5)
          have HO7 := hid o7
          clear o7 HO9 HBAD hj hlt
          go_wp2_with fail
          refine (small299 _ _ _ _ _ l1 (by decide)).mono ?_
          rintro e w7 ⟨rfl, rfl⟩
          go_wp2_with fail
          refine (small300 _ _ _ _ _ l2 (by decide)).mono ?_
          rintro e w7 ⟨rfl, rfl⟩
          clear l1 l2
          have hz7 : ((wr.alloc (.cells #[.int .u8 172, .int .u8 2] 5)).alloc (.cells #[.int .u8 172, .int .u8 2] 5)).heap.size = wr.heap.size + 1 + 1 := by simp
          have hz7' := hid hz7
          clear hz7
          go_wp2_with (at_builtin; refine stop_ (fun Ps hPs => ?_))
          refine hPs ?_
          clear hPs Ps
          generalize (wr.alloc (.cells #[.int .u8 172, .int .u8 2] 5)).alloc (.cells #[.int .u8 172, .int .u8 2] 5) = w8 at HO7 b07 hz7' ⊢
          rw [← hz7'.out]
          have hz7 : wr.heap.size ≤ w8.heap.size := by rw [hz7'.out]; omega
          refine wpList_app1 T22 (.tmp 90) (.tmp 91) rfl rfl HO7.out rfl rfl rfl (by simp [Value.oneCell']) (by decide) (by omega) fun v9 w9 hv9 hg9 hat9 => ?_
          have b09 : Below w.heap.size w w9 := b07.grown hg9 b07.size (by intro k hk; have := (HO7.out.lt k hk).1; omega)
          obtain ⟨A9, c9, rfl, g5, g6⟩ := owned_slice hv9
          have p9 := Rd.of_own hv9
          have e9 : bts nine ++ (#[Value.int .u8 1] : Array Value).toList = bts (nine ++ [1]) := rfl
          rw [e9] at p9
          clear hv9 hg9 hat9 e9 HO7
          go_wp2_with fail
          refine (readMax _ _ _ _ _ p9 (by decide)).mono ?_
          rintro e w10 ⟨rfl, rfl⟩
          clear p9
          go_wp2_with fail
          refine (lives_any _).mono ?_
          rintro e w11 ⟨rfl, b11⟩
          go_wp2_with fail
          go_ret
          exact ⟨rfl, b09.trans (b11.mono b09.size)⟩
end Go.Proofs.Ythihhmmpkbdmnaa
