/- Records with their places: the plain law; Places and Each, walked. -/
import Derived.Test.YthihhmmpkbdmnaaGa
namespace Vi
/-- Records with their places. -/
def sqF : Nat → Nat → List UInt8 → List (Nat × List UInt8)
  | 0, _, _ => []
  | f + 1, a, b => match fread b with
    | none => []
    | some (r, m) => (a, r) :: sqF f (a + m) (b.drop m)
def sq (a : Nat) (b : List UInt8) : List (Nat × List UInt8) := sqF (b.length + 1) a b
theorem sqF_fuel (f : Nat) : ∀ g a b, b.length < f → b.length < g → sqF f a b = sqF g a b := by
  induction f with
  | zero => intro g a b h _; omega
  | succ f ih =>
    intro g a b h1 h2
    obtain ⟨g, rfl⟩ : ∃ g', g = g' + 1 := ⟨g - 1, by omega⟩
    simp only [sqF]
    cases hb : fread b with
    | none => rfl
    | some x =>
      obtain ⟨r, m⟩ := x
      have := fread_fits hb
      have e := ih g (a + m) (b.drop m) (by simp; omega) (by simp; omega)
      show (a, r) :: sqF f (a + m) (b.drop m) = (a, r) :: sqF g (a + m) (b.drop m)
      rw [e]
theorem sq_none {a : Nat} {b : List UInt8} (h : fread b = none) : sq a b = [] := by simp [sq, sqF, h]
theorem sq_some {a : Nat} {b r : List UInt8} {m : Nat} (h : fread b = some (r, m)) : sq a b = (a, r) :: sq (a + m) (b.drop m) := by
  have := fread_fits h
  have e : sqF b.length (a + m) (b.drop m) = sqF ((b.drop m).length + 1) (a + m) (b.drop m) := sqF_fuel _ _ _ _ (by simp; omega) (by omega)
  show (match fread b with | none => [] | some (r, m) => (a, r) :: sqF b.length (a + m) (b.drop m)) = _
  rw [h]
  show (a, r) :: sqF b.length (a + m) (b.drop m) = _
  rw [e]
  rfl
theorem sq_scan (f : Nat) : ∀ a b, b.length < f → (sq a b).map (·.2) = (scan b).1 := by
  induction f with
  | zero => intro a b h; omega
  | succ f ih =>
    intro a b h
    cases hb : fread b with
    | none => rw [sq_none hb, scan_none hb]; rfl
    | some x =>
      obtain ⟨r, m⟩ := x
      have := fread_fits hb
      rw [sq_some hb, scan_some hb, List.map_cons, ih (a + m) (b.drop m) (by simp; omega)]
theorem sq_len (f : Nat) : ∀ a b, b.length < f → (sq a b).length ≤ b.length := by
  induction f with
  | zero => intro a b h; omega
  | succ f ih =>
    intro a b h
    cases hb : fread b with
    | none => rw [sq_none hb]; simp
    | some x =>
      obtain ⟨r, m⟩ := x
      have := fread_fits hb
      have h9 := ih (a + m) (b.drop m) (by simp; omega)
      rw [sq_some hb, List.length_cons]
      simp at h9
      omega
theorem sq_at (f : Nat) : ∀ a b, b.length < f → ∀ x ∈ sq a b, x.1 ≤ a + b.length := by
  induction f with
  | zero => intro a b h; omega
  | succ f ih =>
    intro a b h x hx
    cases hb : fread b with
    | none => rw [sq_none hb] at hx; cases hx
    | some y =>
      obtain ⟨r, m⟩ := y
      have := fread_fits hb
      rw [sq_some hb] at hx
      rcases List.mem_cons.1 hx with rfl | hx
      · show a ≤ _; omega
      · have := ih (a + m) (b.drop m) (by simp; omega) x hx
        simp at this
        omega
end Vi
namespace Go.Proofs.Ythihhmmpkbdmnaa
open Go.RowKit Go.Lg Go.Shelf
set_option linter.unusedVariables false
set_option linter.unusedSimpArgs false

theorem Try.info3 : (Try.prog.info? 3).map (fun i => (i.zero, i.size, i.bytes)) = some (some (.int .i64 0), 1, 8) := by kernel_rfl
theorem T37 : SlT Try.prog 37 3 1 8 := SlT.mk' _ Try.underlying37 Try.info3 rfl (by decide) (by decide)
def nums (l : List Nat) : List Value := l.map (fun a : Nat => Value.int .i64 (a : Int))
def Placed (w : World) (l : List UInt8) (e : Ending) (w' : World) : Prop :=
  ∃ A c, e = .returned (.slice A (Vi.sq 0 l).length c) ∧ w'.ownsRow w.heap.size 3 1 (.slice A (Vi.sq 0 l).length c) (Vi.sq 0 l).length (nums ((Vi.sq 0 l).map (·.1))) ∧ Below w.heap.size w w'
set_option maxHeartbeats 2000000 in
set_option maxRecDepth 100000 in
theorem places36 (A : Option Addr) (n c : Nat) (l : List UInt8) (w : World) (h : Rd w w.heap.size 1 A n (bts l)) (hn : n ≤ 2000000) (hc : n ≤ c) (hcm : c ≤ maxLen) :
    Calls Try.prog 36 #[.slice A n c] w (Placed w l) := by
  have hl : l.length = n := by have := h.1; rw [bts_length] at this; omega
  have HL := hid hl
  have hcm0 := hid hcm
  unfold maxLen at hcm
  obtain ⟨H, hH⟩ : ∃ H, H = w.heap.size := ⟨_, rfl⟩
  have HH := hid hH
  clear hl hH
  go_enter Try.func36, Try.ntmps36
  go_wp2_with fail
  go_loopg [3, 4] n (fun k out at_ wr => ∃ (rs : List (Nat × List UInt8)) (a : Nat), at_ = .int .i64 a ∧ a ≤ n ∧ k = n - a ∧ wr.ownsRow H 3 1 out rs.length (nums (rs.map (·.1))) ∧ Below H w wr ∧ rs.length ≤ a ∧
    Vi.sq 0 l = rs ++ Vi.sq a (l.drop a))
  case atStart => exact ⟨[], 0, rfl, by omega, rfl, World.ownsRow_nil _ _ _ _, Below.refl _ _, by simp, by simp⟩
  case round =>
    obtain ⟨rs, a, rfl, ha, rfl, hrec, hb, hra, hsc⟩ := hrel
    have hHw : H ≤ wr.heap.size := by rw [HH.out]; exact hb.size
    have hslice := ((h.keep (w' := wr) fun p hp => hb.cell (by rw [HH.out]; exact hp)).more hb.size).drop (k := a) (cap := c) ha hc
    rw [Nat.mul_one, bts_drop] at hslice
    have HSC := hid hsc
    have HREC := hid hrec
    clear hsc hrec
    cases hf : Vi.fread (l.drop a) with
    | none =>
      have HF := hid hf
      have h5 : (((5 : Nat) : Int) != 0) = true := rfl
      clear hf
      obtain ⟨Ao, co, rfl, _, _⟩ := owned_slice HREC.out
      have fin : ∀ w1, Below wr.heap.size wr w1 → Placed w l (.returned (.slice Ao rs.length co)) w1 := by
        intro w1 hbw
        have hs0 := HSC.out
        rw [Vi.sq_none HF.out, List.append_nil] at hs0
        exact ⟨Ao, co, by rw [hs0], by rw [hs0, ← HH.out]; exact owned_later HREC.out hbw, by rw [← HH.out]; exact hb.trans (hbw.mono hHw)⟩
      have FIN := hid fin
      clear fin
      by_cases hca : c = a
      · rw [if_pos hca] at hslice
        obtain rfl : a = n := by omega
        subst hca
        rw [Nat.sub_self] at hslice
        go_wp2_with fail
        refine (rRead_none _ _ _ _ wr hslice (by omega) (by omega) (by have := hcm0.out; omega) HF.out).mono ?_
        rintro e w1 ⟨rfl, hbw⟩
        clear hslice
        go_wp2_with fail
        go_ret
        exact FIN.out _ hbw
      · rw [if_neg hca] at hslice
        go_wp2_with fail
        refine (rRead_none _ _ _ _ wr hslice (by omega) (by omega) (by have := hcm0.out; omega) HF.out).mono ?_
        rintro e w1 ⟨rfl, hbw⟩
        clear hslice
        go_wp2_with fail
        go_ret
        exact FIN.out _ hbw
    | some x =>
      obtain ⟨r, m⟩ := x
      have hfit := Vi.fread_fits hf
      rw [List.length_drop, HL.out] at hfit
      have HF := hid hf
      clear hf
      by_cases hca : c = a
      · exfalso; omega
      · rw [if_neg hca] at hslice
        go_wp2_with fail
        refine (rRead_some _ _ _ _ r m wr hslice (by omega) (by omega) (by have := hcm0.out; omega) HF.out).mono ?_
        rintro e w1 ⟨u, rfl, hu, hbu⟩
        have hs1 := hbu.size
        have HO1 := hid (owned_later HREC.out hbu)
        have HBU := hid hbu
        clear hslice hu hbu
        go_wp2_with (at_builtin; refine stop_ (fun Ps hPs => ?_))
        refine hPs ?_
        clear hPs Ps
        refine wpList_app1 T37 (.tmp 19) (.tmp 21) rfl rfl HO1.out rfl (cs := #[.int .i64 (a : Int)]) rfl rfl (by simp [Value.oneCell']) (by omega) (by omega) fun v2 w2 hv2 hg hat => ?_
        have hb2 : Below H w w2 := below_append (hb.trans (HBU.out.mono hHw)) HO1.out hg (by omega)
        have hs2 := HSC.out
        rw [Vi.sq_some HF.out, List.drop_drop] at hs2
        have HS2 := hid hs2
        have HV2 := hid hv2
        clear hg hat hv2 HO1 hs2
        go_wp2_with fail
        go_roundg (n - (a + m))
        case measure => omega
        case rel =>
          refine ⟨rs ++ [(a, r)], a + m, by go_num, by omega, rfl, ?_, hb2, by simp; omega, ?_⟩
          · have h9 := HV2.out
            rw [List.length_append, List.length_singleton]
            simpa [nums] using h9
          · rw [HS2.out]
            simp
/-- The iterator that Each tells. -/
def Eached (l : List UInt8) (w : World) (e : Ending) (w' : World) : Prop :=
  ∃ Bo A c, e = .returned (.func (.func 44) #[] #[.pointer (some ⟨Bo, 0, none⟩)]) ∧ w.heap.size ≤ Bo ∧ Bo < w'.heap.size ∧ w'.cell? ⟨Bo, 0, none⟩ = some (.slice A l.length c) ∧ Rd w' w'.heap.size 1 A l.length (bts l) ∧ l.length ≤ c ∧ c ≤ maxLen ∧ Below w.heap.size w w'
set_option maxHeartbeats 2000000 in
set_option maxRecDepth 100000 in
theorem each37 (A : Option Addr) (n c : Nat) (l : List UInt8) (w : World) (h : Rd w w.heap.size 1 A n (bts l)) (hn : n ≤ 140737488355000) :
    Calls Try.prog 37 #[.slice A n c] w (Eached l w) := by
  have HC := hid (clone_any A n c l w h hn)
  clear h
  go_enter Try.func37, Try.ntmps37
  go_wp2_with (go_at_call 40; refine stop_ (fun Ps hPs => ?_))
  refine hPs ?_
  clear hPs Ps
  refine HC.out.mono ?_
  rintro e w1 ⟨v, rfl, hv, hb⟩
  obtain ⟨A1, c1, rfl, h1, h2⟩ := owned_slice hv
  have HV := hid hv
  have HB := hid hb
  clear hv hb
  go_wp2_with fail
  go_ret
  exact ⟨w1.heap.size, A1, c1, rfl, HB.out.size, by simp, (Boxed.new w1 22 _).cell, ((Rd.of_own HV.out).alloc (Nat.le_refl _) _).more (by simp), h1, h2, HB.out.alloc HB.out.size _⟩
end Go.Proofs.Ythihhmmpkbdmnaa
