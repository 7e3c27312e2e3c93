/- A primary answers without waiting for the other site, as many times as its leash allows: of any acts. No condition. (part 8) -/
import Derived.Deep.DrawnRows
import Derived.Deep.RegionHeld3
import Derived.Laws.BytesString
import Derived.Test.YtbpnbcjgkbpmgaaGreatMAe
import Derived.Test.YtbpnbcjgkbpmgaaGreatMAf
import Derived.Test.YtbpnbcjgkbpmgaaGreatMAg
namespace Go.Proofs.YtbpnbcjgkbpmgaaGreat
open Go.RowKit Go.Lg Ds
set_option linter.unusedVariables false
set_option linter.unusedSimpArgs false
structure R0 (w : World) (F : Fp) (z dz : Nat) : Prop where
  inz : F z
  blk : Blk w z 245 #[P dz, .bool false, .slice none 0 0]
theorem R0.mv {w w' : World} {F G : Fp} {z dz : Nat} (h : R0 w F z dz) (m : Mv w w' F G) : R0 w' G z dz := ⟨(m z h.blk.lt h.inz).1, (m z h.blk.lt h.inz).2.trans h.blk⟩
theorem rcells {w : World} {z dz : Nat} (h : Blk w z 245 #[P dz, .bool false, .slice none 0 0]) : w.cell? ⟨z, 0, none⟩ = some (P dz) ∧ w.cell? ⟨z, 1, none⟩ = some (.bool false) ∧ w.cell? ⟨z, 2, none⟩ = some (.slice none 0 0) := ⟨h.cell 0, h.cell 1, h.cell 2⟩
set_option maxHeartbeats 1000000 in
set_option maxRecDepth 100000 in
theorem rnone168 {w : World} {F : Fp} {z dz : Nat} (h : R0 w F z dz) : Calls Tryz.prog 168 #[P z] w (Asked false w) := by
  obtain ⟨c0, _⟩ := rcells h.blk
  clear h
  go_enter Tryz.func168, Tryz.ntmps168
  go_wp2_with fail
  go_ret
  exact asked_eq rfl
set_option maxHeartbeats 1000000 in
set_option maxRecDepth 100000 in
theorem ris228 {w : World} {F : Fp} {z dz : Nat} (h : R0 w F z dz) : Calls Tryz.prog 228 #[P z] w (Asked true w) := by
  have hn := rnone168 h
  clear h
  go_enter Tryz.func228, Tryz.ntmps228
  go_wp2_with (go_at_call 168; (with_reducible refine hn.mono ?_); rintro e' w1 ⟨rfl, rfl⟩)
  go_ret
  exact asked_eq rfl
set_option maxHeartbeats 1000000 in
set_option maxRecDepth 100000 in
theorem rend128 {w : World} {F : Fp} {z dz : Nat} (h : R0 w F z dz) : Calls Tryz.prog 128 #[P z] w (Num0 0 w) := by
  have hn := rnone168 h
  obtain ⟨c0, c1, c2⟩ := rcells h.blk
  clear h
  go_enter Tryz.func128, Tryz.ntmps128
  go_wp2_with (go_at_call 168; (with_reducible refine hn.mono ?_); rintro e' w1 ⟨rfl, rfl⟩)
  go_ret
  exact ⟨rfl, rfl⟩
theorem fread_nil : Vi.fread [] = none := by rfl
set_option maxHeartbeats 1000000 in
set_option maxRecDepth 100000 in
theorem rscan227 (A : Option Addr) (c : Nat) (hc : c ≤ maxLen) (w : World) : Calls Tryz.prog 227 #[.slice A 0 c] w fun e w' => e = .returned (.tuple #[.slice none 0 0, .int .i64 0]) ∧ w = w' := by
  have hf : ∀ A' c', Calls Tryz.prog 63 #[.slice A' 0 c'] w fun e w' => e = .returned (.tuple #[.slice none 0 0, .int .i64 0, .int .i64 5]) ∧ w = w' := fun A' c' => fRead_none A' 0 c' 0 [] w ⟨rfl, fun h => absurd h (Nat.lt_irrefl _)⟩ (by omega) fread_nil
  unfold maxLen at hc
  have h0 : (0 : Int) ≤ (c : Int) := by omega
  go_enter Tryz.func227, Tryz.ntmps227
  go_wp2_with fail
  go_loopg [4, 5, 6] 0 (fun k x4 x5 x6 wr => k = 0 ∧ x4 = .slice none 0 0 ∧ x5 = .int .i64 0 ∧ x6 = .int .i64 0 ∧ w = wr)
  case atStart => exact ⟨rfl, rfl, rfl, rfl, rfl⟩
  case round =>
    obtain ⟨rfl, rfl, rfl, rfl, rfl⟩ := hrel
    go_wp2_with (go_at_call 63; (with_reducible refine (hf _ _).mono ?_); rintro e' w1 ⟨rfl, rfl⟩)
    all_goals first | omega | (go_ret2; exact ⟨rfl, rfl⟩)
def Read0 (w : World) (e : Ending) (w' : World) : Prop := ∃ A c, e = .returned (.tuple #[.slice A 0 c, .int .i64 0]) ∧ c ≤ maxLen ∧ Below w.heap.size w w'
theorem read_empty {w : World} {F : Fp} {z : Nat} {fs : Nat → Bs} (h : Dk w F z (At fs)) (hs : tot fs ≤ 17592186044416) {f : Nat} (hf : f < 4) (h0 : fs f = []) : Calls Tryz.prog 73 #[P z, .int .i64 (f : Nat)] w (Read0 w) := by
  refine (read73 h (At.ok fs) (by rw [at_sz]; exact hs) f).mono ?_
  rintro e w' ⟨v, rfl, hv, hb⟩
  rw [at_read fs hf, h0] at hv
  obtain ⟨A, c, rfl, h1, h2⟩ := hv.slice_
  exact ⟨A, c, by rw [at_read fs hf]; rfl, h2, hb⟩
def NewO (w : World) (X : World → Fp → Nat → Prop) (e : Ending) (w' : World) : Prop := ∃ z F, e = .returned (.tuple #[P z, .int .i64 0]) ∧ X w' F z ∧ Below w.heap.size w w' ∧ ∀ k, F k → w.heap.size ≤ k
set_option maxHeartbeats 1000000 in
set_option maxRecDepth 100000 in
theorem ropen194 {w : World} {F : Fp} {dz : Nat} {fs : Nat → Bs} (h : Dk w F dz (At fs)) (hs : tot fs ≤ 17592186044416) (h0 : fs 2 = []) : Calls Tryz.prog 194 #[P dz] w (NewO w fun w' F z => R0 w' F z dz) := by
  have hr := read_empty h hs (f := 2) (by decide) h0
  clear h
  go_enter Tryz.func194, Tryz.ntmps194
  go_wp2_with (go_at_call 73; refine stop_ (fun Ps hPs => ?_))
  refine hPs ?_
  clear hPs Ps
  refine hr.mono ?_
  rintro e' w1 ⟨A, c, rfl, hc, hb⟩
  have HB := hid hb
  have hsc := rscan227 A c hc w1
  clear hb hr
  go_wp2_with (go_at_call 227; (with_reducible refine hsc.mono ?_); rintro e' w2 ⟨rfl, rfl⟩)
  go_ret2
  exact ⟨w1.heap.size, fun k => k = w1.heap.size, rfl, ⟨rfl, Blk.new _ _ _⟩, HB.out.alloc HB.out.size _, fun k hk => by rw [hk]; exact HB.out.size⟩
def Sec0 (w : World) (e : Ending) (w' : World) : Prop := e = .returned (.tuple #[.agg #[.int .i64 0, .int .i64 0, .slice none 0 0], .int .i64 0, .bool false]) ∧ Below w.heap.size w w'
set_option maxHeartbeats 1000000 in
set_option maxRecDepth 100000 in
theorem section72 (A : Option Addr) (c : Nat) (w : World) : Calls Tryz.prog 72 #[.slice A 0 c] w (Sec0 w) := by
  obtain ⟨W, hW⟩ : ∃ W, W = w.alloc (.cells #[.int .i64 0, .int .i64 0, .slice none 0 0] 94) := ⟨_, rfl⟩
  have hb : Below w.heap.size w W := by rw [hW]; exact (Below.refl _ _).alloc (Nat.le_refl _) _
  have kb : Blk W w.heap.size 94 #[.int .i64 0, .int .i64 0, .slice none 0 0] := by rw [hW]; exact Blk.new _ _ _
  have hf : Calls Tryz.prog 63 #[.slice A 0 c] W fun e w' => e = .returned (.tuple #[.slice none 0 0, .int .i64 0, .int .i64 5]) ∧ W = w' := fRead_none A 0 c 0 [] W ⟨rfl, fun h => absurd h (Nat.lt_irrefl _)⟩ (by omega) fread_nil
  have c0 : W.cell? ⟨w.heap.size, 0, none⟩ = some (.int .i64 0) := kb.cell 0
  have c1 : W.cell? ⟨w.heap.size, 1, none⟩ = some (.int .i64 0) := kb.cell 1
  have c2 : W.cell? ⟨w.heap.size, 2, none⟩ = some (.slice none 0 0) := kb.cell 2
  have f0 : W.frozen? ⟨w.heap.size, 0, none⟩ = false := kb.frozen 0
  have f1 : W.frozen? ⟨w.heap.size, 1, none⟩ = false := kb.frozen 1
  have f2 : W.frozen? ⟨w.heap.size, 2, none⟩ = false := kb.frozen 2
  have HB := hid hb
  have HK := hid kb
  clear hb kb
  go_enter Tryz.func72, Tryz.ntmps72
  go_wp2_with (go_at_call 63; refine stop_ (fun Ps hPs => ?_))
  refine hPs ?_
  clear hPs Ps
  rw [← hW]
  clear hW
  refine hf.mono ?_
  rintro e' w1 ⟨rfl, rfl⟩
  go_wp2_with fail
  obtain ⟨W3, hW3⟩ : ∃ W3, W3 = (((W.setCell ⟨w.heap.size, 0, none⟩ (.int .i64 0)).setCell ⟨w.heap.size, 1, none⟩ (.int .i64 0)).setCell ⟨w.heap.size, 2, none⟩ (.slice none 0 0)) := ⟨_, rfl⟩
  have k3 : Blk W3 w.heap.size 94 #[.int .i64 0, .int .i64 0, .slice none 0 0] := by rw [hW3]; exact ((HK.out.set_ 0 _).set_ 1 _).set_ 2 _
  have d0 : W3.cell? ⟨w.heap.size, 0, none⟩ = some (.int .i64 0) := k3.cell 0
  have d1 : W3.cell? ⟨w.heap.size, 1, none⟩ = some (.int .i64 0) := k3.cell 1
  have d2 : W3.cell? ⟨w.heap.size, 2, none⟩ = some (.slice none 0 0) := k3.cell 2
  have hb3 : Below w.heap.size w W3 := by rw [hW3]; exact ((HB.out.setCell (Nat.le_refl _) _).setCell (Nat.le_refl _) _).setCell (Nat.le_refl _) _
  have e3 : (((W.setCell ⟨w.heap.size, 0, none⟩ (.int .i64 0)).setCell ⟨w.heap.size, 0 + 1, none⟩ (.int .i64 0)).setCell ⟨w.heap.size, 0 + 1 + 1, none⟩ (.slice none 0 0)) = W3 := hW3.symm
  first | rw [← hW3] | rw [e3] | (simp only [Nat.zero_add] ; rw [← hW3])
  refine bodyPost_ret (by simp [results, Tryz.results72, Tryz.f72, go_sem, d0, d1, d2]; try rfl) rfl ?_
  exact ⟨rfl, hb3⟩
set_option maxHeartbeats 1000000 in
set_option maxRecDepth 100000 in
theorem oscan36 (A : Option Addr) (c : Nat) (hc : c ≤ maxLen) (w : World) : Calls Tryz.prog 36 #[.slice A 0 c] w fun e w' => e = .returned (.tuple #[.slice none 0 0, .int .i64 0]) ∧ Below w.heap.size w w' := by
  unfold maxLen at hc
  have h0 : (0 : Int) ≤ (c : Int) := by omega
  go_enter Tryz.func36, Tryz.ntmps36
  go_wp2_with fail
  go_loopg [4, 5, 6] 0 (fun k x4 x5 x6 wr => k = 0 ∧ x4 = .slice none 0 0 ∧ x5 = .int .i64 0 ∧ x6 = .int .i64 0 ∧ w = wr)
  case atStart => exact ⟨rfl, rfl, rfl, rfl, rfl⟩
  case round =>
    obtain ⟨rfl, rfl, rfl, rfl, rfl⟩ := hrel
    go_wp2_with (go_at_call 72; (with_reducible refine (section72 _ _ _).mono ?_); rintro e' w1 ⟨rfl, hb⟩)
    all_goals first | omega | (go_ret2; exact ⟨rfl, hb.alloc hb.size _⟩)
end Go.Proofs.YtbpnbcjgkbpmgaaGreat
namespace Go.Proofs.YtbpnbcjgkbpmgaaGreat
open Go.RowKit Go.Lg St
set_option linter.unusedVariables false
set_option linter.unusedSimpArgs false
def NumB (n : Int) (w : World) (e : Ending) (w' : World) : Prop := e = .returned (.int .i64 n) ∧ Below w.heap.size w w'
theorem drewN_below (w : World) (d : Nat) : Below w.heap.size w (w.drewN d) := ⟨rfl, rfl, rfl, Nat.le_refl _, fun _ _ => rfl⟩
theorem drewN2_below (w : World) (d e : Nat) : Below w.heap.size w ((w.drewN d).drewN e) := ⟨rfl, rfl, rfl, Nat.le_refl _, fun _ _ => rfl⟩
theorem kb_get (k : ByteArray) (i : Nat) (h : i < k.size) : (kb k)[i]? = some k[i] := by
  unfold kb
  rw [List.getElem?_eq_getElem (by simpa using h)]
  rfl
set_option maxHeartbeats 4000000 in
set_option maxRecDepth 100000 in
theorem shared230 (a b : ByteArray) (w : World) (ha : a.size ≤ 9223372036854775807) (hb : b.size ≤ 9223372036854775807) : Calls Tryz.prog 230 #[.string a, .string b] w (NumB (sh (kb a) (kb b)) w) := by
  obtain ⟨m, hm, hcs⟩ : ∃ m : Nat, (m ≤ a.size ∧ m ≤ b.size ∧ (m = a.size ∨ m = b.size)) ∧ (((b.size : Int) < (a.size : Int) ∧ m = b.size) ∨ (¬(b.size : Int) < (a.size : Int) ∧ m = a.size)) := ⟨min a.size b.size, by omega, by omega⟩
  obtain ⟨hm1, hm2, hm3⟩ := hm
  clear hm3
  rcases hcs with ⟨hc, rfl⟩ | ⟨hc, rfl⟩
  · have HEND : Hid (∀ k : Nat, (∀ i, i < k → (kb a)[i]? = (kb b)[i]?) → k ≤ b.size → (k = b.size ∨ (kb a)[k]? ≠ (kb b)[k]?) → sh (kb a) (kb b) = k) := hid fun k h1 h2 h3 => sh_at _ _ k h1 (by rw [kb_length]; omega) (by rw [kb_length]; omega) (by rw [kb_length, kb_length]; rcases h3 with h | h; (first | exact .inl h | exact .inr (.inl h)); exact .inr (.inr h))
    go_enter Tryz.func230, Tryz.ntmps230
    go_wp2_with fail
    go_loopg [13] b.size (fun g i wr => ∃ (k d : Nat), k ≤ b.size ∧ g = b.size - k ∧ i = .int .i64 k ∧ wr = w.drewN d ∧ Hid (∀ i, i < k → (kb a)[i]? = (kb b)[i]?))
    case atStart => exact ⟨0, 0, by omega, rfl, rfl, rfl, hid fun i hi => absurd hi (by omega)⟩
    case round =>
      obtain ⟨k, d, hk, rfl, rfl, rfl, HI⟩ := hrel
      by_cases hlt : k < b.size
      · have l1 : k < a.size := by omega
        have l2 : k < b.size := by omega
        have i1 : (k : Int) < (a.size : Int) := by omega
        have i2 : (k : Int) < (b.size : Int) := by omega
        by_cases he : a[k] = b[k]
        · have q : ((a[k].toNat : Int) != (b[k].toNat : Int)) = false := by rw [he]; simp
          have HI2 := hid (show ∀ i, i < k + 1 → (kb a)[i]? = (kb b)[i]? from fun i hi => by
            rcases Nat.lt_or_ge i k with h | h
            · exact HI.out i h
            · obtain rfl : i = k := by omega
              rw [kb_get a i l1, kb_get b i l2, he])
          have HE := hid he
          clear he
          go_wp2_with fail
          go_quiet (fail)
          all_goals
            go_wp2_with fail
            go_roundg (b.size - (k + 1))
            case measure => omega
            case rel => exact ⟨k + 1, _, by omega, rfl, by go_num, rfl, HI2⟩
        · have hne : a[k].toNat ≠ b[k].toNat := fun h => he (UInt8.toNat_inj.1 h)
          have q : ((a[k].toNat : Int) != (b[k].toNat : Int)) = true := by simp; omega
          have HE : Hid (sh (kb a) (kb b) = k) := hid (HEND.out k HI.out (by omega) (.inr (by rw [kb_get a k l1, kb_get b k l2]; simpa using he)))
          clear he hne
          go_wp2_with fail
          go_quiet (fail)
          all_goals
            go_wp2_with fail
            go_ret
            refine ⟨rd_int ?_, drewN2_below _ _ _⟩
            rw [HE.out]
      · obtain rfl : k = b.size := by omega
        have HE : Hid (sh (kb a) (kb b) = b.size) := hid (HEND.out _ HI.out (Nat.le_refl _) (.inl rfl))
        go_wp2_with fail
        go_ret
        refine ⟨rd_int ?_, drewN_below _ _⟩
        rw [HE.out]
  · have HEND : Hid (∀ k : Nat, (∀ i, i < k → (kb a)[i]? = (kb b)[i]?) → k ≤ a.size → (k = a.size ∨ (kb a)[k]? ≠ (kb b)[k]?) → sh (kb a) (kb b) = k) := hid fun k h1 h2 h3 => sh_at _ _ k h1 (by rw [kb_length]; omega) (by rw [kb_length]; omega) (by rw [kb_length, kb_length]; rcases h3 with h | h; (first | exact .inl h | exact .inr (.inl h)); exact .inr (.inr h))
    go_enter Tryz.func230, Tryz.ntmps230
    go_wp2_with fail
    go_loopg [13] a.size (fun g i wr => ∃ (k d : Nat), k ≤ a.size ∧ g = a.size - k ∧ i = .int .i64 k ∧ wr = w.drewN d ∧ Hid (∀ i, i < k → (kb a)[i]? = (kb b)[i]?))
    case atStart => exact ⟨0, 0, by omega, rfl, rfl, rfl, hid fun i hi => absurd hi (by omega)⟩
    case round =>
      obtain ⟨k, d, hk, rfl, rfl, rfl, HI⟩ := hrel
      by_cases hlt : k < a.size
      · have l1 : k < a.size := by omega
        have l2 : k < b.size := by omega
        have i1 : (k : Int) < (a.size : Int) := by omega
        have i2 : (k : Int) < (b.size : Int) := by omega
        by_cases he : a[k] = b[k]
        · have q : ((a[k].toNat : Int) != (b[k].toNat : Int)) = false := by rw [he]; simp
          have HI2 := hid (show ∀ i, i < k + 1 → (kb a)[i]? = (kb b)[i]? from fun i hi => by
            rcases Nat.lt_or_ge i k with h | h
            · exact HI.out i h
            · obtain rfl : i = k := by omega
              rw [kb_get a i l1, kb_get b i l2, he])
          have HE := hid he
          clear he
          go_wp2_with fail
          go_quiet (fail)
          all_goals
            go_wp2_with fail
            go_roundg (a.size - (k + 1))
            case measure => omega
            case rel => exact ⟨k + 1, _, by omega, rfl, by go_num, rfl, HI2⟩
        · have hne : a[k].toNat ≠ b[k].toNat := fun h => he (UInt8.toNat_inj.1 h)
          have q : ((a[k].toNat : Int) != (b[k].toNat : Int)) = true := by simp; omega
          have HE : Hid (sh (kb a) (kb b) = k) := hid (HEND.out k HI.out (by omega) (.inr (by rw [kb_get a k l1, kb_get b k l2]; simpa using he)))
          clear he hne
          go_wp2_with fail
          go_quiet (fail)
          all_goals
            go_wp2_with fail
            go_ret
            refine ⟨rd_int ?_, drewN2_below _ _ _⟩
            rw [HE.out]
      · obtain rfl : k = a.size := by omega
        have HE : Hid (sh (kb a) (kb b) = a.size) := hid (HEND.out _ HI.out (Nat.le_refl _) (.inl rfl))
        go_wp2_with fail
        go_ret
        refine ⟨rd_int ?_, drewN_below _ _⟩
        rw [HE.out]
structure Br (w : World) (z : Nat) (A : Option Addr) (n c : Nat) (b : Bys) (s : Rs) : Prop where
  blk : Blk w z 274 #[.slice A n c, .int .i64 (s.1 : Nat), .bool s.2]
  rd : RdF w (fun k => k ≠ z) 1 A n (bts b)
  le : s.1 ≤ n
  cap : n ≤ c ∧ c ≤ 9223372036854775807
  fit : n ≤ 140737488000000
def BrLeft (z : Nat) (A : Option Addr) (n c : Nat) (b : Bys) (s : Rs) (w w' : World) : Prop := Br w' z A n c b s ∧ Mod (fun k => k = z) w w'
def BrNum (z : Nat) (A : Option Addr) (n c : Nat) (b : Bys) (r : Nat × Rs) (w : World) (e : Ending) (w' : World) : Prop := e = .returned (.int .i64 (r.1 : Nat)) ∧ BrLeft z A n c b r.2 w w'
theorem Br.len {w : World} {z n c : Nat} {A : Option Addr} {b : Bys} {s : Rs} (h : Br w z A n c b s) : b.length = n := by simpa using h.rd.1
theorem Br.mv {w w' : World} {z n c : Nat} {A : Option Addr} {b : Bys} {s : Rs} (h : Br w z A n c b s) (hb : Below w.heap.size w w') : Br w' z A n c b s := ⟨h.blk.later hb, h.rd.mv (bmv hb _), h.le, h.cap, h.fit⟩
theorem BrLeft.same {w w' : World} {z n c : Nat} {A : Option Addr} {b : Bys} {s : Rs} (h : Br w z A n c b s) (hb : Below w.heap.size w w') : BrLeft z A n c b s w w' := ⟨h.mv hb, Mod.of_below hb⟩
theorem BrLeft.trans {w w1 w2 : World} {z n c : Nat} {A : Option Addr} {b : Bys} {s s2 : Rs} (h : BrLeft z A n c b s w w1) (k : BrLeft z A n c b s2 w1 w2) : BrLeft z A n c b s2 w w2 := ⟨k.1, h.2.trans_ k.2⟩
theorem Br.set {w w' : World} {z n c : Nat} {A : Option Addr} {b : Bys} {s s' : Rs} (h : Br w z A n c b s) (m : Mod (fun k => k = z) w w') (hb : Blk w' z 274 #[.slice A n c, .int .i64 (s'.1 : Nat), .bool s'.2]) (hl : s'.1 ≤ n) : BrLeft z A n c b s' w w' :=
  ⟨⟨hb, h.rd.mv (m.mv fun k h1 h2 => h1 h2), hl, h.cap, h.fit⟩, m⟩
theorem rd_behind {w : World} {F : Fp} {A : Option Addr} {n c k : Nat} {b : Bys} (h : RdF w F 1 A n (bts b)) (hk : k ≤ n) (hc : n ≤ c) : RdF w F 1 (if c = k then A else A.map (·.add (k * 1))) (n - k) (bts (b.drop k)) := by
  by_cases hck : c = k
  · obtain rfl : n = k := by omega
    have hl : b.length = n := by simpa using h.1
    rw [if_pos hck, Nat.sub_self, List.drop_of_length_le (by omega)]
    exact RdF.nil_
  · rw [if_neg hck]
    rcases Nat.lt_or_ge k n with h1 | h1
    · exact rd_drop h h1
    · obtain rfl : k = n := by omega
      have hl : b.length = k := by simpa using h.1
      rw [Nat.sub_self, List.drop_of_length_le (by omega)]
      exact RdF.nil_
set_option maxHeartbeats 4000000 in
set_option maxRecDepth 100000 in
theorem number197 {w : World} {z n c : Nat} {A : Option Addr} {b : Bys} {s : Rs} (h : Br w z A n c b s) (most : Int) (hm : most ≤ 9223372036854775807) : Calls Tryz.prog 197 #[P z, .int .i64 most] w (BrNum z A n c b (rnum b most s) w) := by
  obtain ⟨at_, bad⟩ := s
  have c0 : w.cell? ⟨z, 0, none⟩ = some (.slice A n c) := h.blk.cell 0
  have c1 : w.cell? ⟨z, 1, none⟩ = some (.int .i64 (at_ : Nat)) := h.blk.cell 1
  have c2 : w.cell? ⟨z, 2, none⟩ = some (.bool bad) := h.blk.cell 2
  have f1 := h.blk.frozen 1
  have f2 := h.blk.frozen 2
  have hcap := h.cap
  have hfit := h.fit
  have hle : at_ ≤ n := h.le
  have hlen := hid h.len
  have hrd := rd_behind h.rd hle hcap.1
  have HH := hid h
  have mz : ∀ i v, Mod (fun k => k = z) w (w.setCell ⟨z, i, none⟩ v) := fun i v => Mod.setCell (F := fun k => k = z) (p := ⟨z, i, none⟩) rfl v
  have MZ := hid mz
  clear h mz
  cases bad with
  | true =>
    have HR : Hid (rnum b most (at_, true) = (0, (at_, true))) := hid rfl
    go_enter Tryz.func197, Tryz.ntmps197
    go_wp2_with fail
    go_ret
    rw [HR.out]
    exact ⟨rfl, BrLeft.same HH.out (Below.refl _ _)⟩
  | false =>
    obtain ⟨x, m, e, hs⟩ : ∃ x m e, Vi.small most (b.drop at_) = (x, m, e) := ⟨_, _, _, rfl⟩
    have hrd2 : RdF w (fun k => k ≠ z) 1 (if c = at_ then A else A.map (·.add at_)) (n - at_) (bts (b.drop at_)) := by rw [Nat.mul_one] at hrd; exact hrd
    have Hs : Hid (∀ (A' : Option Addr) (c' d : Nat), RdF w (fun k => k ≠ z) 1 A' (n - at_) (bts (b.drop at_)) → Calls Tryz.prog 108 #[.slice A' (n - at_) c', .int .i64 most] (w.drewN d) fun e1 w' => e1 = .returned (.tuple #[.int .i64 x, .int .i64 m, .int .i64 e]) ∧ w' = w.drewN d) := hid fun A' c' d hr =>
      (small_at A' (n - at_) c' _ (b.drop at_) most x m e (w.drewN d) ((hr.mv (bmv (drewN_below w d) _)).rd (by decide)) (by omega) hm hs).mono fun _ _ ⟨h1, h2⟩ => ⟨h1, h2.symm⟩
    have hai : (at_ : Int) ≤ (c : Int) := by omega
    have ha0 : (0 : Int) ≤ (at_ : Int) := by omega
    have han : (at_ : Int) ≤ (n : Int) := by omega
    have hsml : e = 0 → m ≤ n - at_ := fun he => by
      have h1 : (Vi.small most (b.drop at_)).2.2 = 0 := by rw [hs]; exact he
      have h2 := (Vi.small_len h1).2.1
      rw [hs, List.length_drop, hlen.out] at h2
      exact h2
    have HSM := hid hsml
    have hxm : e = 0 → (x : Int) ≤ most := fun he => by
      have h1 : (Vi.small most (b.drop at_)).2.2 = 0 := by rw [hs]; exact he
      have h2 := (Vi.small_ok h1).2.2
      rw [hs] at h2
      exact h2
    have HXM := hid hxm
    have hce : e = 0 ∨ e = 5 := by
      by_cases h1 : (Vi.small most (b.drop at_)).2.2 = 0
      · left; rw [hs] at h1; exact h1
      · right; have := Vi.small_bad h1; rw [hs] at this; injection this with _ this; injection this
    have HS := hid hs
    have HR2 := hid hrd2
    clear hrd hrd2 hs hsml hxm hle
    by_cases hca : c = at_
    · have hr2 : Hid (RdF w (fun k => k ≠ z) 1 A (n - at_) (bts (b.drop at_))) := hid (by have := HR2.out; rwa [if_pos hca] at this)
      clear HR2
      rcases hce with rfl | rfl
      · have HR : Hid (rnum b most (at_, false) = (x, (at_ + m, false))) := hid (by
          unfold rnum
          rw [if_neg (by simp), if_neg (by rw [HS.out]; simp), HS.out])
        have hml : m ≤ n - at_ := HSM.out rfl
        go_enter Tryz.func197, Tryz.ntmps197
        go_wp2_with fail
        go_quiet ((go_at_call 108; with_reducible exact Calls.quiet_of_same (Hs.out _ _ _ hr2.out)))
        all_goals
          go_wp2_with fail
          go_ret
          rw [HR.out]
          refine ⟨rfl, HH.out.set ((Mod.setCell (F := fun k => k = z) (p := ⟨z, 1, none⟩) rfl _).behind (drewN_below _ _)) ?_ (by simp only; omega)⟩
          have hbz : Blk (w.setCell ⟨z, 1, none⟩ (.int .i64 ((at_ : Int) + (m : Int)))) z 274 #[.slice A n c, .int .i64 ((at_ : Int) + (m : Int)), .bool false] := HH.out.blk.set_ 1 _
          have e : ((at_ + m : Nat) : Int) = (at_ : Int) + (m : Int) := by omega
          simp only [e]
          exact hbz
      · have HR : Hid (rnum b most (at_, false) = (0, (at_, true))) := hid (by
          unfold rnum
          rw [if_neg (by simp), if_pos (by rw [HS.out]; simp)])
        go_enter Tryz.func197, Tryz.ntmps197
        go_wp2_with fail
        go_quiet ((go_at_call 108; with_reducible exact Calls.quiet_of_same (Hs.out _ _ _ hr2.out)))
        all_goals
          go_wp2_with fail
          go_ret
          rw [HR.out]
          exact ⟨rfl, HH.out.set ((Mod.setCell (F := fun k => k = z) (p := ⟨z, 2, none⟩) rfl _).behind (drewN_below _ _)) (HH.out.blk.set_ 2 _) HH.out.le⟩
    · have hr2 : Hid (RdF w (fun k => k ≠ z) 1 (A.map (·.add at_)) (n - at_) (bts (b.drop at_))) := hid (by have := HR2.out; rwa [if_neg hca] at this)
      clear HR2
      rcases hce with rfl | rfl
      · have HR : Hid (rnum b most (at_, false) = (x, (at_ + m, false))) := hid (by
          unfold rnum
          rw [if_neg (by simp), if_neg (by rw [HS.out]; simp), HS.out])
        have hml : m ≤ n - at_ := HSM.out rfl
        go_enter Tryz.func197, Tryz.ntmps197
        go_wp2_with fail
        go_quiet ((go_at_call 108; with_reducible exact Calls.quiet_of_same (Hs.out _ _ _ hr2.out)))
        all_goals
          go_wp2_with fail
          go_ret
          rw [HR.out]
          refine ⟨rfl, HH.out.set ((Mod.setCell (F := fun k => k = z) (p := ⟨z, 1, none⟩) rfl _).behind (drewN_below _ _)) ?_ (by simp only; omega)⟩
          have hbz : Blk (w.setCell ⟨z, 1, none⟩ (.int .i64 ((at_ : Int) + (m : Int)))) z 274 #[.slice A n c, .int .i64 ((at_ : Int) + (m : Int)), .bool false] := HH.out.blk.set_ 1 _
          have e : ((at_ + m : Nat) : Int) = (at_ : Int) + (m : Int) := by omega
          simp only [e]
          exact hbz
      · have HR : Hid (rnum b most (at_, false) = (0, (at_, true))) := hid (by
          unfold rnum
          rw [if_neg (by simp), if_pos (by rw [HS.out]; simp)])
        go_enter Tryz.func197, Tryz.ntmps197
        go_wp2_with fail
        go_quiet ((go_at_call 108; with_reducible exact Calls.quiet_of_same (Hs.out _ _ _ hr2.out)))
        all_goals
          go_wp2_with fail
          go_ret
          rw [HR.out]
          exact ⟨rfl, HH.out.set ((Mod.setCell (F := fun k => k = z) (p := ⟨z, 2, none⟩) rfl _).behind (drewN_below _ _)) (HH.out.blk.set_ 2 _) HH.out.le⟩
end Go.Proofs.YtbpnbcjgkbpmgaaGreat
namespace Go.Proofs.YtbpnbcjgkbpmgaaGreat
open Go.RowKit Go.Lg St
set_option linter.unusedVariables false
set_option linter.unusedSimpArgs false
theorem foldl_push : ∀ (l : Bys) (s : ByteArray), (l.map fun c => ((c.toNat : Nat) : Int)).foldl (fun (r : ByteArray) (n : Int) => r.push (UInt8.ofNat n.toNat)) s = ⟨s.data ++ l.toArray⟩
  | [], s => by simp
  | c :: l, s => by
    rw [List.map_cons, List.foldl_cons, foldl_push l]
    simp [ByteArray.push, ← Array.toList_inj]
theorem run_str {W : World} {F : Fp} {A : Option Addr} {n c : Nat} {l : Bys} (h : RdF W F 1 A n (bts l)) : (convert 80 9 (.slice A n c)).run Tryz.prog W = .ok (.string (ba l)) W := by
  rw [run_convert_bytes_string W 80 9 5 A n c Tryz.underlying80 Tryz.underlying5 Tryz.underlying9]
  have hl : l.length = n := by simpa using h.1
  have hb : bts l = (l.map fun c => ((c.toNat : Nat) : Int)).map (Value.int .u8) := by simp [bts]
  rcases Nat.eq_zero_or_pos n with h0 | h0
  · subst h0
    have : l = [] := List.eq_nil_of_length_eq_zero hl
    subst this
    cases A with
    | none => simp [Conv.bytesToString, Sem.run_pure, ba]; rfl
    | some a =>
      have := run_bytesToString (P := Tryz.prog) W a 0 c [] (by simp [loadCells, loadCellsFrom, Sem.run_pure])
      rw [this]
      rfl
  · obtain ⟨b, off, rfl, _, hc⟩ := h.2 (by simp; omega)
    have hld : (loadCells ⟨b, off, none⟩ n).run Tryz.prog W = .ok ((l.map fun c => ((c.toNat : Nat) : Int)).map (Value.int .u8)).toArray W := by
      rw [← hb]
      have := run_loadCells_list (P := Tryz.prog) (w := W) ⟨b, off, none⟩ (bts l) (fun j v hj => by rw [Addr.add_lit]; exact hc j v hj)
      rw [bts_length, hl] at this
      exact this
    rw [run_bytesToString (P := Tryz.prog) W ⟨b, off, none⟩ n c _ hld, foldl_push]
    simp [ba]
def BrText (z : Nat) (A : Option Addr) (n c : Nat) (b : Bys) (r : Bys × Rs) (w : World) (e : Ending) (w' : World) : Prop := e = .returned (.string (ba r.1)) ∧ BrLeft z A n c b r.2 w w'
set_option maxHeartbeats 4000000 in
set_option maxRecDepth 100000 in
theorem text229 {w : World} {z n c : Nat} {A : Option Addr} {b : Bys} {s : Rs} (h : Br w z A n c b s) (most : Int) (h0 : 0 ≤ most) (hm : most ≤ 1000000) : Calls Tryz.prog 229 #[P z, .int .i64 most] w (BrText z A n c b (rtext b most s) w) := by
  have hn := number197 h most (by omega)
  have hle := rnum_le (b := b) (most := most) (s := s) (by rw [h.len]; exact h.le)
  obtain ⟨k, at_, bad, hr⟩ : ∃ k at_ bad, rnum b most s = (k, (at_, bad)) := ⟨_, _, _, rfl⟩
  rw [hr] at hn hle
  simp only at hle
  have hlen := h.len
  have HLE := hid hle
  have HR := hid hr
  have HLEN := hid hlen
  have hfit := h.fit
  have hcap := h.cap
  have hk : (k : Int) ≤ 1000000 := by omega
  have han : at_ ≤ n := by omega
  clear hle hr hlen h
  cases bad with
  | true =>
    have HT : Hid (rtext b most s = ([], (at_, true))) := by unfold rtext; rw [HR.out]; exact hid (if_pos (.inl rfl))
    go_enter Tryz.func229, Tryz.ntmps229
    go_wp2_with (go_at_call 197; refine stop_ (fun Ps hPs => ?_))
    refine hPs ?_
    clear hPs Ps
    refine hn.mono ?_
    rintro e' w2 ⟨rfl, hl⟩
    have c2 : w2.cell? ⟨z, 2, none⟩ = some (.bool true) := hl.1.blk.cell 2
    have f2 := hl.1.blk.frozen 2
    have HL := hid hl
    clear hl
    go_wp2_with fail
    go_quiet (fail)
    all_goals
      go_wp2_with fail
      go_ret
      rw [HT.out]
      exact ⟨rfl, HL.out.trans (HL.out.1.set (s' := (at_, true)) ((Mod.setCell (F := fun k => k = z) (p := ⟨z, 2, none⟩) rfl (.bool true)).behind (drewN_below _ _)) (HL.out.1.blk.set_ 2 (.bool true)) HL.out.1.le)⟩
  | false =>
    by_cases hlt : n - at_ < k
    · have HT : Hid (rtext b most s = ([], (at_, true))) := by unfold rtext; rw [HR.out, HLEN.out]; exact hid (if_pos (.inr hlt))
      have hli : (n : Int) - (at_ : Int) < (k : Int) := by omega
      have hd : decide ((n : Int) - (at_ : Int) < (k : Int)) = true := by simpa using hli
      have HLT := hid hlt
      clear hlt
      go_enter Tryz.func229, Tryz.ntmps229
      go_wp2_with (go_at_call 197; refine stop_ (fun Ps hPs => ?_))
      refine hPs ?_
      clear hPs Ps
      refine hn.mono ?_
      rintro e' w2 ⟨rfl, hl⟩
      have c0 : w2.cell? ⟨z, 0, none⟩ = some (.slice A n c) := hl.1.blk.cell 0
      have c1 : w2.cell? ⟨z, 1, none⟩ = some (.int .i64 (at_ : Nat)) := hl.1.blk.cell 1
      have c2 : w2.cell? ⟨z, 2, none⟩ = some (.bool false) := hl.1.blk.cell 2
      have f2 := hl.1.blk.frozen 2
      have HL := hid hl
      clear hl
      go_wp2_with fail
      go_quiet (fail)
      all_goals
        go_wp2_with fail
        go_ret
        rw [HT.out]
        exact ⟨rfl, HL.out.trans (HL.out.1.set (s' := (at_, true)) ((Mod.setCell (F := fun k => k = z) (p := ⟨z, 2, none⟩) rfl (.bool true)).behind (drewN_below _ _)) (HL.out.1.blk.set_ 2 (.bool true)) HL.out.1.le)⟩
    · have HT : Hid (rtext b most s = ((b.drop at_).take k, (at_ + k, false))) := by unfold rtext; rw [HR.out, HLEN.out]; exact hid (if_neg (by simp; omega))
      have hli : ¬((n : Int) - (at_ : Int) < (k : Int)) := by omega
      have hd : decide ((n : Int) - (at_ : Int) < (k : Int)) = false := by simpa using hli
      have HLT := hid hlt
      clear hlt
      go_enter Tryz.func229, Tryz.ntmps229
      go_wp2_with (go_at_call 197; refine stop_ (fun Ps hPs => ?_))
      refine hPs ?_
      clear hPs Ps
      refine hn.mono ?_
      rintro e' w2 ⟨rfl, hl⟩
      have c0 : w2.cell? ⟨z, 0, none⟩ = some (.slice A n c) := hl.1.blk.cell 0
      have c1 : w2.cell? ⟨z, 1, none⟩ = some (.int .i64 (at_ : Nat)) := hl.1.blk.cell 1
      have c2 : w2.cell? ⟨z, 2, none⟩ = some (.bool false) := hl.1.blk.cell 2
      have f1 := hl.1.blk.frozen 1
      have HL := hid hl
      clear hl
      go_wp2_with fail
      go_quiet (fail)
      go_wp2_with fail
      have hs3 : BrLeft z A n c b (at_ + k, false) w2 ((w2.drewN nq).setCell ⟨z, 1, none⟩ (.int .i64 ((at_ : Int) + (k : Int)))) := HL.out.1.set (s' := (at_ + k, false)) ((Mod.setCell (F := fun k => k = z) (p := ⟨z, 1, none⟩) rfl (.int .i64 ((at_ : Int) + (k : Int)))).behind (drewN_below _ _)) (by
        have hbz : Blk (w2.setCell ⟨z, 1, none⟩ (.int .i64 ((at_ : Int) + (k : Int)))) z 274 #[.slice A n c, .int .i64 ((at_ : Int) + (k : Int)), .bool false] := HL.out.1.blk.set_ 1 _
        have e : ((at_ + k : Nat) : Int) = (at_ : Int) + (k : Int) := by omega
        simp only [e]
        exact hbz) (by simp only; omega)
      obtain ⟨W3, hW3⟩ : ∃ W3, W3 = ((w2.drewN nq).setCell ⟨z, 1, none⟩ (.int .i64 ((at_ : Int) + (k : Int)))) := ⟨_, rfl⟩
      rw [← hW3] at hs3 ⊢
      clear hW3
      have c0 : W3.cell? ⟨z, 0, none⟩ = some (.slice A n c) := hs3.1.blk.cell 0
      have c1 : W3.cell? ⟨z, 1, none⟩ = some (.int .i64 ((at_ : Int) + (k : Int))) := by
        have := hs3.1.blk.cell 1
        have e : ((at_ + k : Nat) : Int) = (at_ : Int) + (k : Int) := by omega
        simpa [e] using this
      have hrd := rd_behind hs3.1.rd han hcap.1
      rw [Nat.mul_one] at hrd
      have hcut := rd_take hrd (show k ≤ n - at_ by omega)
      have HS3 := hid hs3
      have hx1 : (0 : Int) ≤ (at_ : Int) := by omega
      have hx2 : (at_ : Int) ≤ (at_ : Int) + (k : Int) := by omega
      have hx3 : (at_ : Int) + (k : Int) ≤ (c : Int) := by omega
      have hx4 : (at_ : Int) + (k : Int) ≤ (n : Int) := by omega
      clear hrd hs3
      by_cases hca : c = at_
      · rw [if_pos hca] at hcut
        have hcv : ∀ c' d, (convert 80 9 (.slice A k c')).run Tryz.prog (W3.drewN d) = .ok (.string (ba ((b.drop at_).take k))) (W3.drewN d) := fun c' d => run_str (hcut.mv (bmv (drewN_below W3 d) _))
        clear hcut
        go_quiet (fail)
        go_wp2_with fail
        go_ret
        rw [HT.out]
        exact ⟨rfl, HL.out.trans (HS3.out.trans (BrLeft.same HS3.out.1 (drewN_below _ _)))⟩
      · rw [if_neg hca] at hcut
        have hcv : ∀ c' d, (convert 80 9 (.slice (A.map (·.add at_)) k c')).run Tryz.prog (W3.drewN d) = .ok (.string (ba ((b.drop at_).take k))) (W3.drewN d) := fun c' d => run_str (hcut.mv (bmv (drewN_below W3 d) _))
        clear hcut
        go_quiet (fail)
        go_wp2_with fail
        go_ret
        rw [HT.out]
        exact ⟨rfl, HL.out.trans (HS3.out.trans (BrLeft.same HS3.out.1 (drewN_below _ _)))⟩
end Go.Proofs.YtbpnbcjgkbpmgaaGreat
