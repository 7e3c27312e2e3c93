/- Txns: the plain calls. -/
import Derived.Test.YtlbekgephjlffaaKc
namespace Go.Proofs.Ytlbekgephjlffaa
open Go.RowKit Go.Lg
set_option linter.unusedVariables false
set_option linter.unusedSimpArgs false

theorem opc_take (os : List Op3) : ∀ t, (opc os).take (t * 3) = opc (os.take t) := by
  induction os with
  | nil => intro t; simp [opc]
  | cons a l ih =>
    intro t
    cases t with
    | zero => simp [opc]
    | succ t =>
      have e1 : opc (a :: l) = .bool a.put :: .string a.key :: .string a.val :: opc l := rfl
      have e2 : opc ((a :: l).take (t + 1)) = .bool a.put :: .string a.key :: .string a.val :: opc (l.take t) := rfl
      have e3 : (t + 1) * 3 = t * 3 + 1 + 1 + 1 := by omega
      rw [e1, e2, e3, List.take_succ_cons, List.take_succ_cons, List.take_succ_cons, ih]
theorem TX.os {rf : Bool} {w : World} {B z n c : Nat} {A : Option Addr} {o : Bool} {os : List Op3} (h : TX rf w B z o (.slice A n c) os) : OS w w.heap.size A n os := by
  have hn : n = os.length := by
    rcases h.own.2 with ⟨h1, h2⟩ | ⟨g, cap, cur, h1, h2⟩
    · injection h1 with _ h3 _
      omega
    · injection h1
  subst hn
  exact ⟨Rd.of_own h.own, rfl⟩
def lenV (o : Bool) (os : List Op3) : Int := if o = true then 0 else (os.length : Int)
def LenIs (o : Bool) (os : List Op3) (w : World) (e : Ending) (w' : World) : Prop := e = .returned (.int .i64 (lenV o os)) ∧ w' = w
def undoE (o : Bool) (os : List Op3) (to : Int) : Int := if o = true then 6 else if to < 0 ∨ (os.length : Int) < to then 2 else 0
def undoO (o : Bool) (os : List Op3) (to : Int) : List Op3 := if undoE o os to = 0 then os.take to.toNat else os
theorem undoE_over (os : List Op3) (to : Int) : undoE true os to = 6 := rfl
theorem undoE_bad {os : List Op3} {to : Int} (h : to < 0 ∨ (os.length : Int) < to) : undoE false os to = 2 := by simp [undoE, h]
theorem undoE_ok {os : List Op3} {t : Nat} (h : t ≤ os.length) : undoE false os (t : Int) = 0 := by
  have : ¬((t : Int) < 0 ∨ (os.length : Int) < (t : Int)) := by omega
  unfold undoE
  rw [if_neg (by decide), if_neg this]
theorem undoO_ne {o : Bool} {os : List Op3} {to : Int} (h : undoE o os to ≠ 0) : undoO o os to = os := if_neg h
theorem undoO_ok {o : Bool} {os : List Op3} {t : Nat} (h : undoE o os (t : Int) = 0) : undoO o os (t : Int) = os.take t := by
  unfold undoO
  rw [if_pos h]
  rfl
def dropE (o : Bool) : Int := if o = true then 6 else 0
/-- The program's txn is over. -/
theorem left_over {B z : Nat} {sv : Value} {os : List Op3} {w W : World} (h : TX false w B z false sv os) (hb : Below w.heap.size w W) : Left false B z sv true [] w ((W.setCell ⟨z, 1, none⟩ (.bool true)).setCell ⟨z, 2, none⟩ (.slice none 0 0)) := by
  have hz2 : Blk W z 50 #[.bool true, .bool false, sv] := h.blk.later hb
  have hgb := gb_setCell (p := ⟨z, 2, none⟩) (.slice none 0 0) (gb_setCell (p := ⟨z, 1, none⟩) (.bool true) (World.grownBy.refl W (some z)))
  refine ⟨.slice none 0 0, ⟨h.hB, ?_, World.ownsRow_nil _ _ _ _, by simp⟩, (Two.of_below hb).trans (r' := none) (Two.of_z hgb) (fun g hg => by cases hg), fun g hg => by simp [Value.ownBlock] at hg⟩
  have := (hz2.set_ 1 (.bool true)).set_ 2 (.slice none 0 0)
  exact this
/-- The document's txn is over. -/
theorem left_over' {B z : Nat} {sv : Value} {os : List Op3} {w W : World} (h : TX true w B z false sv os) (hb : Below w.heap.size w W) : Left true B z sv true os w (W.setCell ⟨z, 2, none⟩ (.bool true)) := by
  have hz2 : Blk W z 62 #[.bool true, sv, .bool false] := h.blk.later hb
  have hgb := gb_setCell (p := ⟨z, 2, none⟩) (.bool true) (World.grownBy.refl W (some z))
  refine ⟨sv, ⟨h.hB, ?_, owned_gb (owned_later h.own hb) hgb (fun g hg he => h.ne g hg (Option.some.inj he)), h.le⟩, (Two.of_below hb).trans (r' := none) (Two.of_z hgb) (fun g hg => by cases hg), fun g hg => .inl hg⟩
  have := hz2.set_ 2 (.bool true)
  exact this
def Began (rf : Bool) (B : Nat) (w : World) (e : Ending) (w' : World) : Prop := e = .returned (P w.heap.size) ∧ TX rf w' B w.heap.size false (.slice none 0 0) [] ∧ Below w.heap.size w w'
set_option maxHeartbeats 1000000 in
set_option maxRecDepth 100000 in
theorem clone28 (A : Option Addr) (n c : Nat) (os : List Op3) (w : World) (h : OS w w.heap.size A n os) (hn : n ≤ 3518437208790) :
    Calls Try.prog 28 #[.slice A n c] w (NewO os n w) := by
  cases A with
  | none =>
    have hn0 : n = 0 := by
      rcases Nat.eq_zero_or_pos n with h0 | h0
      · exact h0
      · obtain ⟨b, off, h1, _⟩ := h.1.2 h0
        cases h1
    subst hn0
    have ho : os = [] := List.length_eq_zero_iff.1 h.2
    subst ho
    clear h
    have q := fun w => Lib.run_eql_slice_nil (P := Try.prog) w 33 43 none 0 c 0 0 Try.underlying33
    go_enter Try.func28, Try.ntmps28
    go_wp2_with fail
    go_ret
    exact newo_eq (World.ownsRow_nil _ _ _ _) (Below.refl _ _)
  | some a =>
    have q := fun w => Lib.run_eql_slice_nil (P := Try.prog) w 33 43 (some a) n c 0 0 Try.underlying33
    go_enter Try.func28, Try.ntmps28
    go_wp2_with (at_builtin; refine stop_ (fun Ps hPs => ?_))
    refine hPs ?_
    clear hPs Ps
    refine wpList_app T33 (.tmp 5) (.tmp 6) rfl rfl (World.ownsRow_lit w #[] 0 (Nat.le_refl _) (Nat.zero_le _) rfl) rfl (h.1.alloc (Nat.le_refl _) _) rfl (opc_one os) (by omega) (by simp) fun v1 w1 hown hg hat => ?_
    have hb : Below w.heap.size w w1 := ((Below.refl _ _).alloc (Nat.le_refl _) _).grown hg (by simp) (by intro k hk; simp [Value.ownBlock] at hk; omega)
    have HO := hid hown
    clear hown hg hat
    go_wp2_with fail
    go_ret
    exact newo_eq (by simpa using HO.out) hb
set_option maxHeartbeats 1000000 in
set_option maxRecDepth 100000 in
theorem own41 (A : Option Addr) (n c : Nat) (os : List Op3) (w : World) (h : OS w w.heap.size A n os) (hn : n ≤ 3518437208790) :
    Calls Try.prog 41 #[.slice A n c] w (NewO os n w) := by
  go_enter Try.func41, Try.ntmps41
  go_wp2_with (at_builtin; refine stop_ (fun Ps hPs => ?_))
  refine hPs ?_
  clear hPs Ps
  refine wpList_app T33 (.tmp 4) (.tmp 5) rfl rfl (World.ownsRow_nil w w.heap.size 43 3) rfl h.1 rfl (opc_one os) (by omega) (Nat.le_refl _) fun v1 w1 hown hg hat => ?_
  have hb : Below w.heap.size w w1 := (Below.refl _ _).grown hg (Nat.le_refl _) (by intro k hk; simp [Value.ownBlock] at hk)
  have HO := hid hown
  clear hown hg hat
  go_wp2_with fail
  go_ret
  exact newo_eq (by simpa using HO.out) hb
set_option maxHeartbeats 2000000 in
set_option maxRecDepth 100000 in
theorem put10 {B z : Nat} {o : Bool} {sv : Value} {os : List Op3} {w : World} (h : TX false w B z o sv os) (k v : ByteArray) : Calls Try.prog 10 #[P z, .string k, .string v] w (Acts false B z sv (addE o os ⟨true, k, v⟩) o (addO o os ⟨true, k, v⟩) w) := by
  have ha := add25 h ⟨true, k, v⟩
  clear h
  go_enter Try.func10, Try.ntmps10
  go_wp2_with (go_at_call 25; refine stop_ (fun Ps hPs => ?_))
  refine hPs ?_
  clear hPs Ps
  refine ha.mono ?_
  rintro e w1 ⟨rfl, hl⟩
  have HL := hid hl
  clear hl
  go_wp2_with fail
  go_ret
  exact ⟨rfl, HL.out⟩
set_option maxHeartbeats 2000000 in
set_option maxRecDepth 100000 in
theorem delete12 {B z : Nat} {o : Bool} {sv : Value} {os : List Op3} {w : World} (h : TX false w B z o sv os) (k : ByteArray) : Calls Try.prog 12 #[P z, .string k] w (Acts false B z sv (addE o os ⟨false, k, ⟨#[]⟩⟩) o (addO o os ⟨false, k, ⟨#[]⟩⟩) w) := by
  have ha := add25 h ⟨false, k, ⟨#[]⟩⟩
  clear h
  go_enter Try.func12, Try.ntmps12
  go_wp2_with (go_at_call 25; refine stop_ (fun Ps hPs => ?_))
  refine hPs ?_
  clear hPs Ps
  refine ha.mono ?_
  rintro e w1 ⟨rfl, hl⟩
  have HL := hid hl
  clear hl
  go_wp2_with fail
  go_ret
  exact ⟨rfl, HL.out⟩
set_option maxHeartbeats 2000000 in
set_option maxRecDepth 100000 in
theorem begin9 {B : Nat} {w : World} (hB : B ≤ w.heap.size) : Calls Try.prog 9 #[] w (Began false B w) := by
  go_enter Try.func9, Try.ntmps9
  go_wp2_with fail
  go_ret
  exact ⟨rfl, ⟨hB, Blk.new w 50 #[.bool true, .bool false, .slice none 0 0], World.ownsRow_nil _ _ _ _, by simp⟩, (Below.refl _ _).alloc (Nat.le_refl _) _⟩
set_option maxHeartbeats 2000000 in
set_option maxRecDepth 100000 in
theorem len11 {B z : Nat} {o : Bool} {sv : Value} {os : List Op3} {w : World} (h : TX false w B z o sv os) : Calls Try.prog 11 #[P z] w (LenIs o os w) := by
  obtain ⟨A, c, rfl, hc1, hc2⟩ := owned_slice h.own
  have kz : Blk w z 50 #[.bool true, .bool o, .slice A os.length c] := h.blk
  have z2 : w.cell? ⟨z, 2, none⟩ = some (.slice A os.length c) := kz.cell 2
  cases o with
  | true =>
    have hwr : Calls Try.prog 26 #[P z] w (fun e w' => e = .returned (.int .i64 6) ∧ w' = w) := wrong26 h
    clear h kz
    go_enter Try.func11, Try.ntmps11
    go_wp2_with (go_at_call 26; refine hwr.mono ?_; clear hwr; rintro e w1 ⟨rfl, rfl⟩)
    go_ret
    exact ⟨rfl, rfl⟩
  | false =>
    have hwr : Calls Try.prog 26 #[P z] w (fun e w' => e = .returned (.int .i64 0) ∧ w' = w) := wrong26 h
    clear h kz
    go_enter Try.func11, Try.ntmps11
    go_wp2_with (go_at_call 26; refine hwr.mono ?_; clear hwr; rintro e w1 ⟨rfl, rfl⟩)
    go_ret
    exact ⟨rfl, rfl⟩
set_option maxHeartbeats 2000000 in
set_option maxRecDepth 100000 in
theorem undo13 {B z : Nat} {o : Bool} {sv : Value} {os : List Op3} {w : World} (h : TX false w B z o sv os) (to : Int) : Calls Try.prog 13 #[P z, .int .i64 to] w (Acts false B z sv (undoE o os to) o (undoO o os to) w) := by
  obtain ⟨A, c, rfl, hc1, hc2⟩ := owned_slice h.own
  have kz : Blk w z 50 #[.bool true, .bool o, .slice A os.length c] := h.blk
  have z2 : w.cell? ⟨z, 2, none⟩ = some (.slice A os.length c) := kz.cell 2
  have f2 := kz.frozen 2
  have H1 := hid h
  cases o with
  | true =>
    have HO := hid (undoO_ne (show undoE true os to ≠ 0 by rw [undoE_over]; decide))
    have hwr : Calls Try.prog 26 #[P z] w (fun e w' => e = .returned (.int .i64 6) ∧ w' = w) := wrong26 h
    clear h kz
    go_enter Try.func13, Try.ntmps13
    go_wp2_with (go_at_call 26; refine hwr.mono ?_; clear hwr; rintro e w1 ⟨rfl, rfl⟩)
    go_ret
    rw [HO.out]
    exact acts_eq (undoE_over _ _) (Left.same H1.out (Below.refl _ _))
  | false =>
    have hwr : Calls Try.prog 26 #[P z] w (fun e w' => e = .returned (.int .i64 0) ∧ w' = w) := wrong26 h
    by_cases hto : to < 0 ∨ (os.length : Int) < to
    · have HE := hid (undoE_bad hto)
      have HO := hid (undoO_ne (show undoE false os to ≠ 0 by rw [HE.out]; decide))
      clear h kz
      by_cases h0 : to < 0
      · clear hto
        go_enter Try.func13, Try.ntmps13
        go_wp2_with (go_at_call 26; refine hwr.mono ?_; clear hwr; rintro e w1 ⟨rfl, rfl⟩)
        go_ret
        rw [HO.out]
        exact acts_eq HE.out (Left.same H1.out (Below.refl _ _))
      · have h2 : (os.length : Int) < to := by omega
        clear hto
        go_enter Try.func13, Try.ntmps13
        go_wp2_with (go_at_call 26; refine hwr.mono ?_; clear hwr; rintro e w1 ⟨rfl, rfl⟩)
        go_ret
        rw [HO.out]
        exact acts_eq HE.out (Left.same H1.out (Below.refl _ _))
    · obtain ⟨t, rfl⟩ : ∃ t : Nat, to = (t : Int) := ⟨to.toNat, by omega⟩
      have ht : t ≤ os.length := by omega
      have HE := hid (undoE_ok ht)
      have HO := hid (undoO_ok HE.out)
      have q0 : ¬(t : Int) < 0 := by omega
      have q1 : ¬(os.length : Int) < (t : Int) := by omega
      have q2 : (0 : Int) ≤ (t : Int) := by omega
      have q3 : (t : Int) ≤ (c : Int) := by omega
      have HT := hid ht
      have hl8 := h.le
      have hown := h.own
      have hos := h.os
      clear hto h kz
      rcases hown.2 with ⟨h1, h2⟩ | ⟨g, cap, cur, h1, _⟩
      · obtain ⟨rfl, _, rfl⟩ : A = none ∧ True ∧ c = 0 := by injection h1 with a b c; exact ⟨a, trivial, c⟩
        obtain rfl : t = 0 := by have := HT.out; omega
        have hnil : os = [] := List.length_eq_zero_iff.1 h2
        subst hnil
        clear h1 h2
        clear hown
        go_enter Try.func13, Try.ntmps13
        go_wp2_with (go_at_call 26; refine hwr.mono ?_; clear hwr; rintro e w1 ⟨rfl, rfl⟩)
        go_ret
        rw [HO.out]
        exact acts_eq HE.out (left_cut H1.out (Below.refl _ _) (by simpa [opc] using World.ownsRow_nil w1 B 43 3) (by simp) (fun g hg => .inl hg))
      · obtain ⟨rfl, rfl⟩ : A = some ⟨g, 0, none⟩ ∧ c = cap := by injection h1 with a b c; exact ⟨a, c⟩
        have HP := hid (owned_prefix hown HT.out)
        have HF := hid (hos.1.take HT.out)
        clear h1
        clear hown
        go_enter Try.func13, Try.ntmps13
        go_wp2_with (go_at_call 26; refine hwr.mono ?_; clear hwr; rintro e w1 ⟨rfl, rfl⟩)
        go_ret
        rw [HO.out]
        refine acts_eq HE.out (left_cut H1.out (Below.refl _ _) ?_ (by simp; omega) (fun g hg => .inl hg))
        rw [List.length_take_of_le HT.out, ← opc_take]
        exact HP.out
set_option maxHeartbeats 2000000 in
set_option maxRecDepth 100000 in
theorem drop18 {B z : Nat} {o : Bool} {sv : Value} {os : List Op3} {w : World} (h : TX false w B z o sv os) : Calls Try.prog 18 #[P z] w (Acts false B z sv (dropE o) true (if o = true then os else []) w) := by
  have kz : Blk w z 50 #[.bool true, .bool o, sv] := h.blk
  obtain ⟨A, c, rfl, hc1, hc2⟩ := owned_slice h.own
  have z1 : w.cell? ⟨z, 1, none⟩ = some (.bool o) := kz.cell 1
  have z2 : w.cell? ⟨z, 2, none⟩ = some (.slice A os.length c) := kz.cell 2
  have f1 := kz.frozen 1
  have f2 := kz.frozen 2
  have H1 := hid h
  cases o with
  | true =>
    have hwr : Calls Try.prog 26 #[P z] w (fun e w' => e = .returned (.int .i64 6) ∧ w' = w) := wrong26 h
    clear h kz
    go_enter Try.func18, Try.ntmps18
    go_wp2_with (go_at_call 26; refine hwr.mono ?_; clear hwr; rintro e w1 ⟨rfl, rfl⟩)
    go_ret
    exact ⟨rfl, Left.same H1.out (Below.refl _ _)⟩
  | false =>
    have hwr : Calls Try.prog 26 #[P z] w (fun e w' => e = .returned (.int .i64 0) ∧ w' = w) := wrong26 h
    clear h kz
    go_enter Try.func18, Try.ntmps18
    go_wp2_with (go_at_call 26; refine hwr.mono ?_; clear hwr; rintro e w1 ⟨rfl, rfl⟩)
    go_ret
    exact ⟨rfl, left_over H1.out (Below.refl _ _)⟩
set_option maxHeartbeats 2000000 in
set_option maxRecDepth 100000 in
theorem put32 {B z : Nat} {o : Bool} {sv : Value} {os : List Op3} {w : World} (h : TX true w B z o sv os) (k v : ByteArray) : Calls Try.prog 32 #[P z, .string k, .string v] w (Acts true B z sv (addE o os ⟨true, k, v⟩) o (addO o os ⟨true, k, v⟩) w) := by
  have ha := add40 h ⟨true, k, v⟩
  clear h
  go_enter Try.func32, Try.ntmps32
  go_wp2_with (go_at_call 40; refine stop_ (fun Ps hPs => ?_))
  refine hPs ?_
  clear hPs Ps
  refine ha.mono ?_
  rintro e w1 ⟨rfl, hl⟩
  have HL := hid hl
  clear hl
  go_wp2_with fail
  go_ret
  exact ⟨rfl, HL.out⟩
set_option maxHeartbeats 2000000 in
set_option maxRecDepth 100000 in
theorem delete33 {B z : Nat} {o : Bool} {sv : Value} {os : List Op3} {w : World} (h : TX true w B z o sv os) (k : ByteArray) : Calls Try.prog 33 #[P z, .string k] w (Acts true B z sv (addE o os ⟨false, k, ⟨#[]⟩⟩) o (addO o os ⟨false, k, ⟨#[]⟩⟩) w) := by
  have ha := add40 h ⟨false, k, ⟨#[]⟩⟩
  clear h
  go_enter Try.func33, Try.ntmps33
  go_wp2_with (go_at_call 40; refine stop_ (fun Ps hPs => ?_))
  refine hPs ?_
  clear hPs Ps
  refine ha.mono ?_
  rintro e w1 ⟨rfl, hl⟩
  have HL := hid hl
  clear hl
  go_wp2_with fail
  go_ret
  exact ⟨rfl, HL.out⟩
set_option maxHeartbeats 2000000 in
set_option maxRecDepth 100000 in
theorem begin19 {B : Nat} {w : World} (hB : B ≤ w.heap.size) : Calls Try.prog 19 #[] w (Began true B w) := by
  go_enter Try.func19, Try.ntmps19
  go_wp2_with fail
  go_ret
  exact ⟨rfl, ⟨hB, Blk.new w 62 #[.bool true, .slice none 0 0, .bool false], World.ownsRow_nil _ _ _ _, by simp⟩, (Below.refl _ _).alloc (Nat.le_refl _) _⟩
set_option maxHeartbeats 2000000 in
set_option maxRecDepth 100000 in
theorem len21 {B z : Nat} {o : Bool} {sv : Value} {os : List Op3} {w : World} (h : TX true w B z o sv os) : Calls Try.prog 21 #[P z] w (LenIs o os w) := by
  obtain ⟨A, c, rfl, hc1, hc2⟩ := owned_slice h.own
  have kz : Blk w z 62 #[.bool true, .slice A os.length c, .bool o] := h.blk
  have z2 : w.cell? ⟨z, 1, none⟩ = some (.slice A os.length c) := kz.cell 1
  cases o with
  | true =>
    have hwr : Calls Try.prog 37 #[P z] w (fun e w' => e = .returned (.int .i64 6) ∧ w' = w) := asked37 h
    clear h kz
    go_enter Try.func21, Try.ntmps21
    go_wp2_with (go_at_call 37; refine hwr.mono ?_; clear hwr; rintro e w1 ⟨rfl, rfl⟩)
    go_ret
    exact ⟨rfl, rfl⟩
  | false =>
    have hwr : Calls Try.prog 37 #[P z] w (fun e w' => e = .returned (.int .i64 0) ∧ w' = w) := asked37 h
    clear h kz
    go_enter Try.func21, Try.ntmps21
    go_wp2_with (go_at_call 37; refine hwr.mono ?_; clear hwr; rintro e w1 ⟨rfl, rfl⟩)
    go_ret
    exact ⟨rfl, rfl⟩
set_option maxHeartbeats 2000000 in
set_option maxRecDepth 100000 in
theorem undo34 {B z : Nat} {o : Bool} {sv : Value} {os : List Op3} {w : World} (h : TX true w B z o sv os) (to : Int) : Calls Try.prog 34 #[P z, .int .i64 to] w (Acts true B z sv (undoE o os to) o (undoO o os to) w) := by
  obtain ⟨A, c, rfl, hc1, hc2⟩ := owned_slice h.own
  have kz : Blk w z 62 #[.bool true, .slice A os.length c, .bool o] := h.blk
  have z2 : w.cell? ⟨z, 1, none⟩ = some (.slice A os.length c) := kz.cell 1
  have f2 := kz.frozen 1
  have H1 := hid h
  cases o with
  | true =>
    have HO := hid (undoO_ne (show undoE true os to ≠ 0 by rw [undoE_over]; decide))
    have hwr : Calls Try.prog 37 #[P z] w (fun e w' => e = .returned (.int .i64 6) ∧ w' = w) := asked37 h
    clear h kz
    go_enter Try.func34, Try.ntmps34
    go_wp2_with (go_at_call 37; refine hwr.mono ?_; clear hwr; rintro e w1 ⟨rfl, rfl⟩)
    go_ret
    rw [HO.out]
    exact acts_eq (undoE_over _ _) (Left.same H1.out (Below.refl _ _))
  | false =>
    have hwr : Calls Try.prog 37 #[P z] w (fun e w' => e = .returned (.int .i64 0) ∧ w' = w) := asked37 h
    by_cases hto : to < 0 ∨ (os.length : Int) < to
    · have HE := hid (undoE_bad hto)
      have HO := hid (undoO_ne (show undoE false os to ≠ 0 by rw [HE.out]; decide))
      clear h kz
      by_cases h0 : to < 0
      · clear hto
        go_enter Try.func34, Try.ntmps34
        go_wp2_with (go_at_call 37; refine hwr.mono ?_; clear hwr; rintro e w1 ⟨rfl, rfl⟩)
        go_ret
        rw [HO.out]
        exact acts_eq HE.out (Left.same H1.out (Below.refl _ _))
      · have h2 : (os.length : Int) < to := by omega
        clear hto
        go_enter Try.func34, Try.ntmps34
        go_wp2_with (go_at_call 37; refine hwr.mono ?_; clear hwr; rintro e w1 ⟨rfl, rfl⟩)
        go_ret
        rw [HO.out]
        exact acts_eq HE.out (Left.same H1.out (Below.refl _ _))
    · obtain ⟨t, rfl⟩ : ∃ t : Nat, to = (t : Int) := ⟨to.toNat, by omega⟩
      have ht : t ≤ os.length := by omega
      have HE := hid (undoE_ok ht)
      have HO := hid (undoO_ok HE.out)
      have q0 : ¬(t : Int) < 0 := by omega
      have q1 : ¬(os.length : Int) < (t : Int) := by omega
      have q2 : (0 : Int) ≤ (t : Int) := by omega
      have q3 : (t : Int) ≤ (c : Int) := by omega
      have HT := hid ht
      have hl8 := h.le
      have hown := h.own
      have hos := h.os
      clear hto h kz
      rcases hown.2 with ⟨h1, h2⟩ | ⟨g, cap, cur, h1, _⟩
      · obtain ⟨rfl, _, rfl⟩ : A = none ∧ True ∧ c = 0 := by injection h1 with a b c; exact ⟨a, trivial, c⟩
        obtain rfl : t = 0 := by have := HT.out; omega
        have hnil : os = [] := List.length_eq_zero_iff.1 h2
        subst hnil
        clear h1 h2
        clear hown
        go_enter Try.func34, Try.ntmps34
        go_wp2_with (go_at_call 37; refine stop_ (fun Ps hPs => ?_))
        refine hPs ?_
        clear hPs Ps
        refine hwr.mono ?_
        clear hwr
        rintro e w1 ⟨rfl, rfl⟩
        go_wp2_with (go_at_call 41; refine stop_ (fun Ps hPs => ?_))
        refine hPs ?_
        clear hPs Ps
        refine (own41 none 0 0 [] w1 ⟨Rd.nil_, rfl⟩ (by omega)).mono ?_
        rintro e w2 ⟨v2, rfl, ho2, hb2⟩
        obtain ⟨A2, c2, rfl, _, _⟩ := owned_slice ho2
        have kz2 : Blk w2 z 62 _ := H1.out.blk.later hb2
        have z3 := kz2.cell 1
        have f3 := kz2.frozen 1
        simp only [tcs] at z3
        have HO2 := hid ho2
        have HB2 := hid hb2
        clear ho2 hb2 kz2
        go_wp2_with fail
        go_ret
        rw [HO.out]
        refine acts_eq HE.out (left_cut H1.out HB2.out ?_ (by simp; try omega) (fun g hg => .inr (HO2.out.lt g hg).1))
        exact owned_less HO2.out H1.out.leB
      · obtain ⟨rfl, rfl⟩ : A = some ⟨g, 0, none⟩ ∧ c = cap := by injection h1 with a b c; exact ⟨a, c⟩
        have HP := hid (owned_prefix hown HT.out)
        have HF := hid (hos.1.take HT.out)
        clear h1
        clear hown
        go_enter Try.func34, Try.ntmps34
        go_wp2_with (go_at_call 37; refine stop_ (fun Ps hPs => ?_))
        refine hPs ?_
        clear hPs Ps
        refine hwr.mono ?_
        clear hwr
        rintro e w1 ⟨rfl, rfl⟩
        go_wp2_with (go_at_call 41; refine stop_ (fun Ps hPs => ?_))
        refine hPs ?_
        clear hPs Ps
        refine (own41 (some ⟨g, 0, none⟩) t c (os.take t) w1 ⟨by rw [← opc_take]; exact HF.out, List.length_take_of_le HT.out⟩ (by omega)).mono ?_
        rintro e w2 ⟨v2, rfl, ho2, hb2⟩
        obtain ⟨A2, c2, rfl, _, _⟩ := owned_slice ho2
        have kz2 : Blk w2 z 62 _ := H1.out.blk.later hb2
        have z3 := kz2.cell 1
        have f3 := kz2.frozen 1
        simp only [tcs] at z3
        have HO2 := hid ho2
        have HB2 := hid hb2
        clear ho2 hb2 kz2
        go_wp2_with fail
        go_ret
        rw [HO.out]
        refine acts_eq HE.out (left_cut H1.out HB2.out ?_ (by simp; try omega) (fun g hg => .inr (HO2.out.lt g hg).1))
        rw [List.length_take_of_le HT.out]
        exact owned_less HO2.out H1.out.leB
set_option maxHeartbeats 2000000 in
set_option maxRecDepth 100000 in
theorem drop36 {B z : Nat} {o : Bool} {sv : Value} {os : List Op3} {w : World} (h : TX true w B z o sv os) : Calls Try.prog 36 #[P z] w (Acts true B z sv (dropE o) true os w) := by
  have kz : Blk w z 62 #[.bool true, sv, .bool o] := h.blk
  obtain ⟨A, c, rfl, hc1, hc2⟩ := owned_slice h.own
  have z1 : w.cell? ⟨z, 2, none⟩ = some (.bool o) := kz.cell 2
  have z2 : w.cell? ⟨z, 1, none⟩ = some (.slice A os.length c) := kz.cell 1
  have f1 := kz.frozen 2
  have f2 := kz.frozen 1
  have H1 := hid h
  cases o with
  | true =>
    have hwr : Calls Try.prog 37 #[P z] w (fun e w' => e = .returned (.int .i64 6) ∧ w' = w) := asked37 h
    clear h kz
    go_enter Try.func36, Try.ntmps36
    go_wp2_with (go_at_call 37; refine hwr.mono ?_; clear hwr; rintro e w1 ⟨rfl, rfl⟩)
    go_ret
    exact ⟨rfl, Left.same H1.out (Below.refl _ _)⟩
  | false =>
    have hwr : Calls Try.prog 37 #[P z] w (fun e w' => e = .returned (.int .i64 0) ∧ w' = w) := asked37 h
    clear h kz
    go_enter Try.func36, Try.ntmps36
    go_wp2_with (go_at_call 37; refine hwr.mono ?_; clear hwr; rintro e w1 ⟨rfl, rfl⟩)
    go_ret
    exact ⟨rfl, left_over' H1.out (Below.refl _ _)⟩
end Go.Proofs.Ytlbekgephjlffaa
