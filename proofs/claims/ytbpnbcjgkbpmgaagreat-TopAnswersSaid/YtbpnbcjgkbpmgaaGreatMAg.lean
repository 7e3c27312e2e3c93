/- A primary answers without waiting for the other site, as many times as its leash allows: of any acts. No condition. (part 7) -/
import Derived.Test.YtbpnbcjgkbpmgaaGreatRows
import Derived.Test.YtbpnbcjgkbpmgaaGreatMAa
import Derived.Test.YtbpnbcjgkbpmgaaGreatMAb
import Derived.Test.YtbpnbcjgkbpmgaaGreatMAd
namespace Ds
set_option linter.unusedVariables false
def At (fs : Nat → Bs) : Dsk := ⟨false, false, 0, fs, []⟩
def pcs (f : Nat) : Nat → Bs → List Pst
  | 0, _ => []
  | n + 1, b => if b = [] then [] else ⟨true, f, b.take 64, 0⟩ :: pcs f n (b.drop 64)
def Wt (fs : Nat → Bs) (f : Nat) (b : Bs) : Dsk := ⟨false, false, 0, fs, pcs f b.length b⟩
theorem wrN_calm (f : Nat) : ∀ (n : Nat) (d : Dsk) (b : Bs), d.fused = false → wrN f n d b = (0, { d with pend := d.pend ++ pcs f n b })
  | 0, d, b, h => by simp [wrN, pcs]
  | n + 1, d, b, h => by
    unfold wrN pcs
    by_cases hb : b = []
    · simp [hb]
    · rw [if_neg hb, if_neg hb]
      have e : d.burn = (true, d) := by unfold Dsk.burn; rw [if_neg (by simp [h])]
      rw [e]
      simp only [if_true]
      rw [wrN_calm f n _ _ (by exact h)]
      simp [Dsk.push]
theorem pcs_len (f : Nat) : ∀ (n : Nat) (b : Bs), (pcs f n b).length ≤ n
  | 0, b => by simp [pcs]
  | n + 1, b => by
    unfold pcs
    split
    · simp
    · have := pcs_len f n (b.drop 64)
      simp; exact this
theorem run_pcs (f : Nat) : ∀ (n : Nat) (b : Bs) (D : Nat → Bs), b.length ≤ n → run D (pcs f n b) = upd D f (D f ++ b)
  | 0, b, D, h => by
    have : b = [] := List.length_eq_zero_iff.1 (by omega)
    subst this
    funext j
    simp [pcs, run, upd]
    intro e; rw [e]
  | n + 1, b, D, h => by
    unfold pcs
    by_cases hb : b = []
    · subst hb
      funext j
      simp [run, upd]
      intro e; rw [e]
    · rw [if_neg hb]
      have hl : 0 < b.length := List.length_pos_iff.2 hb
      rw [run, run_pcs f n _ _ (by simp; omega)]
      funext j
      simp only [upd, done]
      by_cases hj : j = f
      · simp [hj]
      · simp [hj]
theorem ran_pcs (f : Nat) (hf : f < 4) : ∀ (n : Nat) (b : Bs) (D : Nat → Bs), ran D (pcs f n b)
  | 0, b, D => trivial
  | n + 1, b, D => by
    unfold pcs
    by_cases hb : b = []
    · rw [if_pos hb]; trivial
    · rw [if_neg hb]
      have hl : 0 < b.length := List.length_pos_iff.2 hb
      exact ⟨⟨hf, by simp; omega⟩, ran_pcs f hf n _ _⟩
theorem At.ok (fs : Nat → Bs) : (At fs).ok := ⟨by simp [At], trivial⟩
theorem Wt.ok (fs : Nat → Bs) {f : Nat} (hf : f < 4) (b : Bs) : (Wt fs f b).ok := ⟨by simp [Wt], ran_pcs f hf _ _ _⟩
theorem at_write (fs : Nat → Bs) {f : Nat} (hf : f < 4) (b : Bs) : (At fs).write f b = (0, Wt fs f b) := by
  unfold Dsk.write
  rw [if_neg (by simp [At]), if_pos (by simp [isF]; omega), wrN_calm _ _ _ _ rfl]
  simp [At, Wt]
theorem wt_sync (fs : Nat → Bs) (f : Nat) (b : Bs) : (Wt fs f b).sync = (0, At (upd fs f (fs f ++ b))) := by
  unfold Dsk.sync
  have e : (Wt fs f b).burn = (true, Wt fs f b) := by unfold Dsk.burn; rw [if_neg (by simp [Wt])]
  rw [if_neg (by simp [Wt]), e]
  simp only [if_true, Dsk.settle, Wt, At, List.take_length, List.drop_length]
  rw [run_pcs f _ b fs (Nat.le_refl _)]
theorem at_held (fs : Nat → Bs) (f : Nat) : (At fs).held f = fs f := rfl
theorem at_read (fs : Nat → Bs) {f : Nat} (hf : f < 4) : (At fs).read f = (fs f, 0) := by
  unfold Dsk.read
  rw [if_neg (by simp [At]), if_pos (by simp [isF]; omega)]
  simp [at_held]
theorem at_sz (fs : Nat → Bs) : (At fs).sz = tot fs := by simp [Dsk.sz, At, tot]
theorem wt_sz (fs : Nat → Bs) (f : Nat) (b : Bs) : (Wt fs f b).sz ≤ tot fs + 64 * b.length := by
  have := pcs_len f b.length b
  simp only [Dsk.sz, Wt, tot]
  omega
end Ds
namespace Go.Proofs.YtbpnbcjgkbpmgaaGreat
open Go.RowKit Go.Lg
theorem Tryz.info5 : (Tryz.prog.info? 5).map (fun i => (i.zero, i.size, i.bytes)) = some (some (.int .u8 0), 1, 1) := by kernel_rfl
theorem T22 : SlT Tryz.prog 80 5 1 1 := SlT.mk' _ Tryz.underlying80 Tryz.info5 rfl (by decide) (by decide)
def Fresh (w : World) (l : List UInt8) (e : Ending) (w' : World) : Prop :=
  ∃ v, e = .returned v ∧ w'.ownsRow w.heap.size 5 1 v l.length (bts l) ∧ Below w.heap.size w w'
def spare : List UInt8 := [201, 202, 203]
def lent (l : List UInt8) : List UInt8 := l ++ spare
def flip (c : UInt8) : UInt8 := UInt8.ofNat (255 - c.toNat)
theorem owned_form0 {w : World} {base : Nat} {e : TypeId} {sz n : Nat} {v : Value} {xs : List Value} (h : w.ownsRow base e sz v n xs) : v = .slice none 0 0 ∧ n = 0 ∨ ∃ g cap, v = .slice (some ⟨g, 0, none⟩) n cap := by
  rcases h.2 with h0 | ⟨g, cap, cur, hv, _⟩
  · exact .inl h0
  · exact .inr ⟨g, cap, hv⟩
end Go.Proofs.YtbpnbcjgkbpmgaaGreat
namespace Go.Proofs.YtbpnbcjgkbpmgaaGreat
open Go.RowKit Go.Lg
theorem or128 (y : Nat) : bits .or .u8 ((y : Int) % 256) 128 = ((UInt8.ofNat (y % 128 + 128)).toNat : Int) := by
  have h1 : ∀ a : Fin 256, bits .or .u8 ((a.val : Nat) : Int) 128 = ((a.val % 128 + 128 : Nat) : Int) := by decide +kernel
  have h2 := h1 ⟨y % 256, by omega⟩
  rw [Vi.u8_toNat _ (by omega)]
  have e1 : ((y % 256 : Nat) : Int) = (y : Int) % 256 := by omega
  have e2 : y % 256 % 128 = y % 128 := by omega
  simpa only [e1, e2] using h2
set_option maxHeartbeats 400000 in
set_option maxRecDepth 100000 in
theorem append_any (A : Option Addr) (n c : Nat) (l : List UInt8) (x : Nat) (w : World) (h : Rd w w.heap.size 1 A n (bts l)) (hn : n ≤ 140737488354000) (hx : x < 2 ^ 64) :
    Calls Tryz.prog 167 #[.slice A n c, .int .u64 x] w (Fresh w (l ++ Vi.enc x)) := by
  have hl := h.1
  rw [bts_length, Nat.mul_one] at hl
  obtain ⟨B, hB⟩ : ∃ B, B = w.heap.size := ⟨_, rfl⟩
  have hB' := hid hB
  have hln : l.length ≤ 140737488354000 := by omega
  have HL := hid hl
  have HX := hid hx
  clear hB hl hx
  go_enter Tryz.func167, Tryz.ntmps167
  go_wp2_with (at_builtin; refine stop_ (fun Ps hPs => ?_))
  refine hPs ?_
  clear hPs Ps
  refine wpList_app T22 (.const (.slice none 0 0)) (.tmp 6) rfl rfl (World.ownsRow_nil w B 5 1) rfl h rfl (bts_one l) (by omega) (by rw [hB'.out]; exact Nat.le_refl _) fun v1 w1 hown hg hat => ?_
  have hb : Below B w w1 := below_append (Below.refl _ _) (World.ownsRow_nil w B 5 1) hg (by rw [hB'.out]; exact Nat.le_refl _)
  clear hg hat
  rw [List.nil_append, Nat.zero_add, ← HL.out] at hown
  have hsB : B ≤ w.heap.size := by rw [hB'.out]; exact Nat.le_refl _
  go_wp2_with fail
  go_loopg [1, 5] 9 (fun f xv v wr => ∃ (y : Nat) (pre : List UInt8), xv = .int .u64 y ∧ y < 2 * 128 ^ f ∧ f ≤ 9 ∧ Vi.enc x = pre ++ Vi.encF f y ∧ wr.ownsRow B 5 1 v (l.length + pre.length) (bts (l ++ pre)) ∧ Below B w wr)
  case atStart => exact ⟨x, [], rfl, by rw [← Vi.two64]; exact HX.out, by omega, rfl, by simpa using hown, hb⟩
  case round =>
    clear hown hb
    obtain ⟨y, pre, rfl, hy, hf, hen, hown, hb⟩ := hrel
    have hs := hb.size
    have hp : pre.length ≤ 10 := by
      have := Vi.encF_len_le 9 x
      have h2 := congrArg List.length hen
      rw [List.length_append] at h2
      unfold Vi.enc at h2
      omega
    have HE := hid hen
    have HY := hid hy
    clear hen hy
    by_cases hlt : y < 128
    · go_wp2_with (at_builtin; refine stop_ (fun Ps hPs => ?_))
      refine hPs ?_
      clear hPs Ps
      refine wpList_app1 T22 (.tmp 18) (.tmp 21) rfl rfl hown rfl rfl rfl (by simp [Value.oneCell']) (by omega) (by omega) fun v1 w1 hown1 hg hat => ?_
      have hb1 := below_append hb hown hg (by omega)
      clear hown hb hg hat
      go_wp2_with fail
      go_ret
      refine ⟨v1, rfl, ?_, by rw [← hB'.out]; exact hb1⟩
      have he : l ++ Vi.enc x = (l ++ pre) ++ [UInt8.ofNat y] := by rw [HE.out, Vi.encF_zero _ _ hlt, List.append_assoc]
      rw [he, bts_snoc, Vi.u8_toNat y (by omega), ← hB'.out]
      simpa [Nat.add_assoc] using hown1
    · have hor := hid (or128 y)
      go_wp2_with (at_builtin; refine stop_ (fun Ps hPs => ?_))
      refine hPs ?_
      clear hPs Ps
      refine wpList_app1 T22 (.tmp 10) (.tmp 14) rfl rfl hown rfl rfl rfl (by simp [Value.oneCell']) (by omega) (by omega) fun v1 w1 hown1 hg hat => ?_
      have hb1 := below_append hb hown hg (by omega)
      clear hown hb hg hat
      go_wp2_with fail
      cases gk with
      | zero => exact absurd HY.out (by omega)
      | succ g =>
        go_roundg g
        case measure => omega
        case rel =>
          refine ⟨y / 128, pre ++ [UInt8.ofNat (y % 128 + 128)], ?_, ?_, by omega, ?_, ?_, hb1⟩
          · rfl
          · have := HY.out; rw [Nat.pow_succ] at this; omega
          · rw [HE.out, Vi.encF, if_neg hlt, List.append_assoc]; rfl
          · rw [← List.append_assoc, bts_snoc, ← hor.out]; simpa [Nat.add_assoc] using hown1
end Go.Proofs.YtbpnbcjgkbpmgaaGreat
namespace Go.Proofs.YtbpnbcjgkbpmgaaGreat
open Go.RowKit Go.Lg
def rd3 (k : IntKind) (r : Nat × Nat × Nat) : Value := .tuple #[.int k r.1, .int .i64 r.2.1, .int .i64 r.2.2]
theorem and127 (y : Nat) (hy : y < 256) : bits .and .u8 (y : Int) 127 = ((y % 128 : Nat) : Int) := by
  have h1 : ∀ a : Fin 256, bits .and .u8 ((a.val : Nat) : Int) 127 = ((a.val % 128 : Nat) : Int) := by decide +kernel
  exact h1 ⟨y, hy⟩
theorem wrapDigit (d j : Nat) (hd : d < 128) (hj : j ≤ 9) (h9 : j = 9 → d ≤ 1) : IntKind.u64.wrap (IntKind.u64.wrap (d : Int) * 2 ^ (7 * j)) = ((d * 128 ^ j : Nat) : Int) := by
  have hf := Vi.digit_fits d j hj hd h9
  have e : (2 : Int) ^ (7 * j) = ((128 ^ j : Nat) : Int) := by rw [Int.pow_mul]; simp
  rw [IntWalk.u64_in (d : Int) (by omega), e, ← Int.natCast_mul, IntWalk.u64_in _ (by omega)]
theorem orDigit (x y j : Nat) (hx : x < 128 ^ j) (hj : j ≤ 9) (hy : y < 256) (h9 : j = 9 → y ≤ 1) :
    bits .or .u64 (x : Int) (IntKind.u64.wrap (IntKind.u64.wrap (bits .and .u8 (y : Int) 127) * 2 ^ (7 * j))) = ((x + y % 128 * 128 ^ j : Nat) : Int) := by
  rw [and127 y hy, wrapDigit _ _ (by omega) hj (by omega), u64_or_nat _ _ (by have := Vi.pow_fits j hj; omega) (Vi.digit_fits _ _ hj (by omega) (by omega)), Vi.or_digit _ _ _ hx]
theorem dec_cons (j x : Nat) (l : List UInt8) (y : UInt8) (h : l[j]? = some y) : Vi.dec j x (l.drop j) =
    if j = 9 ∧ 1 < y.toNat then (0, 0, 5) else if 128 ≤ y.toNat then Vi.dec (j + 1) (x + y.toNat % 128 * 128 ^ j) (l.drop (j + 1))
    else if y.toNat = 0 ∧ 0 < j then (0, 0, 5) else (x + y.toNat % 128 * 128 ^ j, j + 1, 0) := by
  obtain ⟨hj, rfl⟩ := List.getElem?_eq_some_iff.1 h
  rw [List.drop_eq_getElem_cons hj]
  rfl
set_option maxHeartbeats 400000 in
set_option maxRecDepth 100000 in
theorem read_any (A : Option Addr) (n c B : Nat) (l : List UInt8) (w : World) (h : Rd w B 1 A n (bts l)) (hn : n ≤ 9223372036854775807) :
    Calls Tryz.prog 156 #[.slice A n c] w fun e w' => e = .returned (rd3 .u64 (Vi.dec 0 0 l)) ∧ w = w' := by
  have hl := h.1
  rw [bts_length, Nat.mul_one] at hl
  have HL := hid hl
  clear hl
  go_enter Tryz.func156, Tryz.ntmps156
  go_wp2_with fail
  go_loopg [2, 9] n (fun k xv i wr => ∃ (j x : Nat), j ≤ n ∧ j ≤ 9 ∧ k = n - j ∧ xv = .int .u64 x ∧ i = .int .i64 j ∧ x < 128 ^ j ∧ Vi.dec 0 0 l = Vi.dec j x (l.drop j) ∧ wr = w)
  case atStart => exact ⟨0, 0, by omega, by omega, rfl, rfl, rfl, by decide, rfl, rfl⟩
  case round =>
    obtain ⟨j, x, hj, hj9, rfl, rfl, rfl, hx, hd, rfl⟩ := hrel
    have HX := hid hx
    by_cases hlt : j < n
    · obtain ⟨b, off, y, rfl, hb, hy, hc⟩ := h.byte hlt
      rw [dec_cons j x l y hy] at hd
      have hy2 : y.toNat < 256 := y.toNat_lt
      clear hx hy h
      by_cases h1 : j = 9 ∧ 1 < y.toNat
      · obtain ⟨rfl, h1'⟩ := h1
        rw [if_pos ⟨rfl, h1'⟩] at hd
        have HD := hid hd
        clear hd
        go_wp2_with fail
        go_ret3
        exact ⟨by rw [HD.out]; rfl, rfl⟩
      · rw [if_neg h1] at hd
        have hor := hid (orDigit x y.toNat j HX.out hj9 hy2 (by omega))
        by_cases h2 : 128 ≤ y.toNat
        · rw [if_pos h2] at hd
          have HD := hid hd
          clear hd
          have h9 : ((j : Int) == 9) = false := by simp; omega
          go_wp2_with fail
          go_roundg (n - (j + 1))
          case measure => omega
          case rel => exact ⟨j + 1, x + y.toNat % 128 * 128 ^ j, by omega, by omega, rfl, by rw [hor.out], by go_num, Vi.digits_more _ _ _ HX.out (by omega), HD.out, rfl⟩
        · rw [if_neg h2] at hd
          have h9 : ((j : Int) == 9) = true ∧ ¬ 1 < y.toNat ∨ ((j : Int) == 9) = false := by
            rcases Nat.lt_or_ge j 9 with h9 | h9
            · right; simp; omega
            · left; exact ⟨by simp; omega, by omega⟩
          have hc9 : ¬ 1 < y.toNat ∨ j < 9 := by omega
          clear h1
          by_cases h3 : y.toNat = 0 ∧ 0 < j
          · rw [if_pos h3] at hd
            have HD := hid hd
            clear hd
            have h0 : ((y.toNat : Int) == 0) = true := by simp [h3.1]
            have hj0 : 0 < j := h3.2
            clear h3 hor
            rcases h9 with ⟨h9, h1⟩ | h9
            all_goals
              go_wp2_with fail
              go_ret3
              exact ⟨by rw [HD.out]; rfl, rfl⟩
          · rw [if_neg h3] at hd
            have HD := hid hd
            clear hd
            have h0 : ((y.toNat : Int) == 0) = true ∧ ¬ 0 < j ∨ ((y.toNat : Int) == 0) = false := by
              rcases Nat.eq_zero_or_pos y.toNat with h | h
              · left; exact ⟨by simp [h], by omega⟩
              · right; simp; omega
            clear h3
            rcases h9 with ⟨h9, h1⟩ | h9 <;> rcases h0 with ⟨h0, hj0⟩ | h0
            all_goals
              go_wp2_with fail
              go_ret3
              refine ⟨?_, rfl⟩
              rw [HD.out]
              show Ending.returned (.tuple #[.int .u64 (bits _ _ _ _), .int .i64 (↑j + 1), .int .i64 0]) = _
              rw [hor.out]
              rfl
    · obtain rfl : j = n := by omega
      have HD : Hid (Vi.dec 0 0 l = (0, 0, 5)) := by
        rw [hd, List.drop_eq_nil_of_le (by have := HL.out; omega)]; rfl
      clear hd hx
      go_wp2_with fail
      go_ret3
      exact ⟨by rw [HD.out]; rfl, rfl⟩
theorem ret3 {k : IntKind} {a : Int} {b c : Int} {r : Nat × Nat × Nat} (h1 : a = r.1) (h2 : b = r.2.1) (h3 : c = r.2.2) : Ending.returned (.tuple #[.int k a, .int .i64 b, .int .i64 c]) = .returned (rd3 k r) := by
  rw [h1, h2, h3]; rfl
set_option maxHeartbeats 400000 in
set_option maxRecDepth 100000 in
theorem small_any (A : Option Addr) (n c B : Nat) (l : List UInt8) (most : Int) (w : World) (h : Rd w B 1 A n (bts l)) (hn : n ≤ 9223372036854775807) (hm : most ≤ 9223372036854775807) :
    Calls Tryz.prog 108 #[.slice A n c, .int .i64 most] w fun e w' => e = .returned (rd3 .i64 (Vi.small most l)) ∧ w = w' := by
  go_enter Tryz.func108, Tryz.ntmps108
  go_wp2_with fail
  refine (read_any A n c B l w h hn).mono ?_
  rintro e w1 ⟨rfl, rfl⟩
  clear h
  have he := Vi.dec_err l 0 0
  have hs : Hid (Vi.small most l = if (Vi.dec 0 0 l).2.2 ≠ 0 ∨ most < 0 ∨ most < ((Vi.dec 0 0 l).1 : Int) then (0, 0, 5) else Vi.dec 0 0 l) := hid rfl
  unfold rd3
  generalize Vi.dec 0 0 l = r at he hs ⊢
  obtain ⟨v, k, e⟩ := r
  rcases he with he | he
  · dsimp at he
    subst he
    have h0 : (((0 : Nat) : Int) != 0) = false := rfl
    by_cases h1 : most < 0
    · go_wp2_with fail
      go_ret3
      exact ⟨ret3 (by rw [hs.out, if_pos (by simp; omega)]; rfl) (by rw [hs.out, if_pos (by simp; omega)]; rfl) (by rw [hs.out, if_pos (by simp; omega)]; rfl), rfl⟩
    · by_cases h2 : most < (v : Int)
      · go_wp2_with fail
        go_ret3
        exact ⟨ret3 (by rw [hs.out, if_pos (by simp; omega)]; rfl) (by rw [hs.out, if_pos (by simp; omega)]; rfl) (by rw [hs.out, if_pos (by simp; omega)]; rfl), rfl⟩
      · go_wp2_with fail
        go_ret3
        exact ⟨ret3 (by rw [hs.out, if_neg (by simp; omega)]) (by rw [hs.out, if_neg (by simp; omega)]) (by rw [hs.out, if_neg (by simp; omega)]; rfl), rfl⟩
  · injection he with e1 e2
    injection e2 with e2 e3
    subst e1 e2 e3
    have h0 : (((5 : Nat) : Int) != 0) = true := rfl
    go_wp2_with fail
    go_ret3
    exact ⟨ret3 (by rw [hs.out, if_pos (by simp)]; rfl) (by rw [hs.out, if_pos (by simp)]; rfl) (by rw [hs.out, if_pos (by simp)]; rfl), rfl⟩
end Go.Proofs.YtbpnbcjgkbpmgaaGreat
namespace Go.Proofs.YtbpnbcjgkbpmgaaGreat
open Go.RowKit Go.Lg
theorem small_at (A : Option Addr) (n c B : Nat) (l : List UInt8) (most : Int) (a b d : Nat) (w : World) (h : Rd w B 1 A n (bts l)) (hn : n ≤ 9223372036854775807) (hm : most ≤ 9223372036854775807) (hd : Vi.small most l = (a, b, d)) :
    Calls Tryz.prog 108 #[.slice A n c, .int .i64 most] w fun e w' => e = .returned (.tuple #[.int .i64 a, .int .i64 b, .int .i64 d]) ∧ w = w' :=
  (small_any A n c B l most w h hn hm).mono fun e w' ⟨h1, h2⟩ => ⟨by rw [h1, hd]; rfl, h2⟩
end Go.Proofs.YtbpnbcjgkbpmgaaGreat
namespace Go.Proofs.YtbpnbcjgkbpmgaaGreat
open Go.RowKit Go.Lg
theorem append_as (A : Option Addr) (n c : Nat) (l r : List UInt8) (x : Nat) (w : World) (hr : r = l ++ Vi.enc x) (h : Rd w w.heap.size 1 A n (bts l)) (hn : n ≤ 140737488354000) (hx : x < 2 ^ 64) :
    Calls Tryz.prog 167 #[.slice A n c, .int .u64 x] w (Fresh w r) := hr ▸ append_any A n c l x w h hn hx
end Go.Proofs.YtbpnbcjgkbpmgaaGreat
namespace Go.Proofs.YtbpnbcjgkbpmgaaGreat
open Go.RowKit Go.Lg
set_option linter.unusedVariables false
set_option linter.unusedSimpArgs false
set_option maxHeartbeats 400000 in
set_option maxRecDepth 100000 in
theorem clone_any (A : Option Addr) (n c : Nat) (l : List UInt8) (w : World) (h : Rd w w.heap.size 1 A n (bts l)) (hn : n ≤ 140737488355000) :
    Calls Tryz.prog 85 #[.slice A n c] w (Fresh w l) := by
  have hl := h.1
  rw [bts_length, Nat.mul_one] at hl
  have HL := hid hl
  clear hl
  cases A with
  | none =>
    have h0 : n = 0 := by
      rcases Nat.eq_zero_or_pos n with q | q
      · exact q
      · obtain ⟨b, off, q2, _⟩ := h.2 q; cases q2
    subst h0
    have hnil : l = [] := List.eq_nil_of_length_eq_zero HL.out
    subst hnil
    have q := fun w => Lib.run_eql_slice_nil (P := Tryz.prog) w 80 5 none 0 c 0 0 Tryz.underlying80
    go_enter Tryz.func85, Tryz.ntmps85
    go_wp2_with fail
    go_ret
    exact ⟨_, rfl, World.ownsRow_nil _ _ _ _, Below.refl _ _⟩
  | some a =>
    have q := fun w => Lib.run_eql_slice_nil (P := Tryz.prog) w 80 5 (some a) n c 0 0 Tryz.underlying80
    go_enter Tryz.func85, Tryz.ntmps85
    go_wp2_with (at_builtin; refine stop_ (fun Ps hPs => ?_))
    refine hPs ?_
    clear hPs Ps
    refine wpList_app T22 (.tmp 5) (.tmp 6) rfl rfl (World.ownsRow_lit w #[] 0 (Nat.le_refl _) (Nat.zero_le _) rfl) rfl (h.alloc (Nat.le_refl _) _) rfl (bts_one l) (by omega) (by simp) fun v1 w1 hown hg hat => ?_
    have hb : Below w.heap.size w w1 := ((Below.refl _ _).alloc (Nat.le_refl _) _).grown hg (by simp) (by intro k hk; simp [Value.ownBlock] at hk; omega)
    go_wp2_with fail
    go_ret
    exact ⟨v1, rfl, by rw [HL.out]; simpa using hown, hb⟩
set_option maxHeartbeats 400000 in
set_option maxRecDepth 100000 in
theorem whole_bad (A : Option Addr) (n c B : Nat) (l : List UInt8) (k m e : Nat) (w : World) (h : Rd w B 1 A n (bts l)) (hn : n ≤ 9223372036854775807) (hs : Vi.small 131072 l = (k, m, e)) (hb : e ≠ 0 ∨ n < m + k) (hk : k ≤ 131072) (hm : m ≤ 10) :
    Calls Tryz.prog 107 #[.slice A n c] w fun e w' => e = .returned (.tuple #[.int .i64 0, .int .i64 0, .bool false]) ∧ w = w' := by
  have HS := hid hs
  clear hs
  go_enter Tryz.func107, Tryz.ntmps107
  go_wp2_with fail
  refine (small_at A n c B l 131072 k m e w h hn (by decide) HS.out).mono ?_
  rintro e' w1 ⟨rfl, rfl⟩
  clear h
  by_cases h0 : e = 0
  · subst h0
    have h1 : (((0 : Nat) : Int) != 0) = false := rfl
    have h2 : n < m + k := by omega
    clear hb
    go_wp2_with fail
    go_ret3
    exact ⟨rfl, rfl⟩
  · have h1 : ((e : Int) != 0) = true := by simp; omega
    clear hb
    go_wp2_with fail
    go_ret3
    exact ⟨rfl, rfl⟩
set_option maxHeartbeats 400000 in
set_option maxRecDepth 100000 in
theorem whole_ok (A : Option Addr) (n c B : Nat) (l : List UInt8) (k m t : Nat) (w : World) (h : Rd w B 1 A n (bts l)) (hn : n ≤ 9223372036854775807) (hs : Vi.small 131072 l = (k, m, 0)) (hb : m + k ≤ n) (ht : t = m + k) (hk : k ≤ 131072) (hm : m ≤ 10) :
    Calls Tryz.prog 107 #[.slice A n c] w fun e w' => e = .returned (.tuple #[.int .i64 m, .int .i64 t, .bool true]) ∧ w = w' := by
  have HS := hid hs
  have HT := hid ht
  clear hs ht
  go_enter Tryz.func107, Tryz.ntmps107
  go_wp2_with fail
  refine (small_at A n c B l 131072 k m 0 w h hn (by decide) HS.out).mono ?_
  rintro e' w1 ⟨rfl, rfl⟩
  clear h
  have h1 : (((0 : Nat) : Int) != 0) = false := rfl
  go_wp2_with fail
  go_ret3
  refine ⟨?_, rfl⟩
  rw [HT.out]; rfl
set_option maxHeartbeats 400000 in
set_option maxRecDepth 100000 in
theorem fRead_none (A : Option Addr) (n c B : Nat) (l : List UInt8) (w : World) (h : Rd w B 1 A n (bts l)) (hn : n ≤ 9223372036854775807) (hf : Vi.fread l = none) :
    Calls Tryz.prog 63 #[.slice A n c] w fun e w' => e = .returned (.tuple #[.slice none 0 0, .int .i64 0, .int .i64 5]) ∧ w = w' := by
  obtain ⟨k, m, e, hs⟩ : ∃ k m e, Vi.small 131072 l = (k, m, e) := ⟨_, _, _, rfl⟩
  have hl : l.length = n := by have := h.1; rw [bts_length] at this; omega
  have hbad : e ≠ 0 ∨ n < m + k := by
    unfold Vi.fread at hf
    split at hf
    · rename_i q; rw [hs] at q; rw [hl] at q; exact q
    · cases hf
  have hkm : k ≤ 131072 ∧ m ≤ 10 := by
    rcases Nat.eq_zero_or_pos e with h0 | h0
    · have h1 := Vi.small_ok (m := 131072) (b := l) (by rw [hs]; exact h0)
      have h2 := Vi.small_len (m := 131072) (b := l) (by rw [hs]; exact h0)
      rw [hs] at h1 h2
      exact ⟨by have := h1.2.2; omega, h2.2.2⟩
    · have h1 := Vi.small_bad (m := 131072) (b := l) (by rw [hs]; show e ≠ 0; omega)
      rw [hs] at h1
      cases h1
      omega
  have HS := hid hs
  clear hs hf hl
  go_enter Tryz.func63, Tryz.ntmps63
  go_wp2_with fail
  refine (whole_bad A n c B l k m e w h hn HS.out hbad hkm.1 hkm.2).mono ?_
  rintro e' w1 ⟨rfl, rfl⟩
  clear h
  go_wp2_with fail
  go_ret3
  exact ⟨rfl, rfl⟩
def FreshAt (w : World) (l : List UInt8) (m : Nat) (e : Ending) (w' : World) : Prop :=
  ∃ v, e = .returned (.tuple #[v, .int .i64 m, .int .i64 0]) ∧ w'.ownsRow w.heap.size 5 1 v l.length (bts l) ∧ Below w.heap.size w w'
set_option maxHeartbeats 400000 in
set_option maxRecDepth 100000 in
theorem fRead_some (A : Option Addr) (n c : Nat) (l r : List UInt8) (t : Nat) (w : World) (h : Rd w w.heap.size 1 A n (bts l)) (hn : n ≤ 140737488355000) (hc : n ≤ c) (hcm : c ≤ maxLen) (hf : Vi.fread l = some (r, t)) :
    Calls Tryz.prog 63 #[.slice A n c] w (FreshAt w r t) := by
  obtain ⟨k, m, e, hs⟩ : ∃ k m e, Vi.small 131072 l = (k, m, e) := ⟨_, _, _, rfl⟩
  have hl : l.length = n := by have := h.1; rw [bts_length] at this; omega
  unfold Vi.fread at hf
  split at hf
  · cases hf
  · rename_i q
    rw [hs] at q hf
    simp only [Option.some.injEq, Prod.mk.injEq] at hf q
    obtain ⟨hr, ht⟩ := hf
    have he : e = 0 := by
      rcases Nat.eq_zero_or_pos e with h0 | h0
      · exact h0
      · exact absurd (.inl (by omega)) q
    subst he
    have hle : m + k ≤ n := by
      rcases Nat.lt_or_ge n (m + k) with h0 | h0
      · exact absurd (.inr (by omega)) q
      · exact h0
    have h1 := Vi.small_ok (m := 131072) (b := l) (by rw [hs])
    have h2 := Vi.small_len (m := 131072) (b := l) (by rw [hs])
    rw [hs] at h1 h2
    have hk : k ≤ 131072 := by have := h1.2.2; omega
    have hm : m ≤ 10 := h2.2.2
    have htn : t ≤ n := by omega
    have hmt : m ≤ t := by omega
    have hslice := (h.take htn).drop (k := m) (cap := c) hmt (by omega)
    rw [Nat.mul_one, Nat.mul_one, bts_take, bts_drop] at hslice
    have hrr : (l.take t).drop m = r := by rw [List.drop_take, ← hr]; congr 1; omega
    rw [hrr] at hslice
    unfold maxLen at hcm
    have HS := hid hs
    have HT := hid ht.symm
    clear hs ht q hr hl h1 h2 hrr
    go_enter Tryz.func63, Tryz.ntmps63
    go_wp2_with fail
    refine (whole_ok A n c _ l k m t w h (by omega) HS.out hle HT.out hk hm).mono ?_
    rintro e' w1 ⟨rfl, rfl⟩
    clear h
    by_cases hca : c = m
    all_goals
      first | rw [if_pos hca] at hslice | rw [if_neg hca] at hslice
      try subst hca
      go_wp2_with fail
      refine (clone_any _ _ _ r w hslice (by omega)).mono ?_
      rintro e w2 ⟨v, rfl, hv, hb⟩
      go_wp2_with fail
      go_ret3
      exact ⟨v, rfl, hv, hb⟩
def Framed (w : World) (l : List UInt8) (e : Ending) (w' : World) : Prop :=
  ∃ v, e = .returned (.tuple #[v, .int .i64 0]) ∧ w'.ownsRow w.heap.size 5 1 v l.length (bts l) ∧ Below w.heap.size w w'
set_option maxHeartbeats 400000 in
set_option maxRecDepth 100000 in
theorem fAppend_any (A A' : Option Addr) (n c n' c' : Nat) (b r out : List UInt8) (w : World) (h : Rd w w.heap.size 1 A n (bts b)) (h' : Rd w w.heap.size 1 A' n' (bts r)) (hn : n ≤ 140737488000000) (hn' : n' ≤ 131072) (hout : out = b ++ Vi.fr r) :
    Calls Tryz.prog 129 #[.slice A n c, .slice A' n' c'] w (Framed w out) := by
  have hl : r.length = n' := by have := h'.1; rw [bts_length] at this; omega
  have hbl : b.length = n := by have := h.1; rw [bts_length] at this; omega
  obtain ⟨bx, hbx⟩ : ∃ bx, bx = b ++ Vi.enc n' := ⟨_, rfl⟩
  have hxl : bx.length ≤ n + 10 := by
    rw [hbx, List.length_append]
    have := Vi.encF_len_le 9 n'
    unfold Vi.enc
    omega
  have hox : bx ++ r = out := by rw [hbx, hout, ← hl, Vi.fr, List.append_assoc]
  have HBX := hid hbx
  have HOX := hid hox
  have HOL : Hid (bx.length + n' = out.length) := by
    have := congrArg List.length hox
    rw [List.length_append, hl] at this
    exact this
  clear hbx hox hl hbl hout
  go_enter Tryz.func129, Tryz.ntmps129
  go_wp2_with fail
  refine (append_as A n c b bx n' w HBX.out h (by omega) (by omega)).mono ?_
  rintro e w1 ⟨v, rfl, hv, hb⟩
  have h1 := h'.below hb
  have hs := hb.size
  have HV := hid hv
  clear hv h h'
  go_wp2_with (at_builtin; refine stop_ (fun Ps hPs => ?_))
  refine hPs ?_
  clear hPs Ps
  refine wpList_app T22 (.tmp 13) (.tmp 14) rfl rfl HV.out rfl h1 rfl (bts_one r) (by omega) hs fun v2 w2 hv2 hg hat => ?_
  have hb2 : Below w.heap.size w w2 := below_append hb HV.out hg hs
  rw [← bts_append, HOX.out, HOL.out] at hv2
  clear hg hat h1
  have HV2 := hid hv2
  clear hv2
  go_wp2_with fail
  go_ret2
  exact ⟨v2, rfl, HV2.out, hb2⟩
def RR (w : World) (B : Nat) (A : Option Addr) (n : Nat) (vs : List Value) (rs : List (List UInt8)) : Prop :=
  Rd w B 1 A n vs ∧ rs.length = n ∧ ∀ (i : Nat) u r, vs[i]? = some u → rs[i]? = some r → ∃ Ai ci, u = .slice Ai r.length ci ∧ Rd w B 1 Ai r.length (bts r) ∧ r.length ≤ 9223372036854775807
end Go.Proofs.YtbpnbcjgkbpmgaaGreat
