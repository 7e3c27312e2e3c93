/- Txns: the end of one: its deferred closure. -/
import Derived.Test.YtlbekgephjlffaaKd
import Derived.Defers
namespace Go.Proofs.Ytlbekgephjlffaa
open Go.RowKit Go.Lg
set_option linter.unusedVariables false
set_option linter.unusedSimpArgs false

theorem over27 (b z : Nat) (u : FrameMode) (w : World) (hb : w.cell? ⟨b, 0, none⟩ = some (P z)) {x1 x2 : Value} (c1 : w.cell? ⟨z, 1, none⟩ = some x1) (c2 : w.cell? ⟨z, 2, none⟩ = some x2) (f1 : w.frozen? ⟨z, 1, none⟩ = false) (f2 : w.frozen? ⟨z, 2, none⟩ = false) :
    CallsD Try.prog 27 #[.pointer (some ⟨b, 0, none⟩)] u w fun e u' w' => u' = u ∧ e = .returned (.tuple #[]) ∧ w' = (w.setCell ⟨z, 1, none⟩ (.bool true)).setCell ⟨z, 2, none⟩ (.slice none 0 0) := by
  go_enter_d Try.func27, Try.ntmps27
  go_wp2
  go_end0
  exact ⟨rfl, rfl⟩
def doneE (o : Bool) (os : List Op3) : Int := if o = true then 6 else if os.length = 0 then 2 else 0
def doneL (o : Bool) (os : List Op3) : List Op3 := if doneE o os = 0 then os else []
def doneO (o : Bool) (os : List Op3) : Bool := if doneE o os = 0 then true else o
def doneR (o : Bool) (os : List Op3) : List Op3 := if doneE o os = 0 then [] else os
/-- What is left of the txn, apart from what is told. -/
def LeftA (rf : Bool) (B z : Nat) (sv v : Value) (o' : Bool) (os' : List Op3) (w w' : World) : Prop :=
  ∃ sv', (TX rf w' B z o' sv' os' ∧ Two z sv.ownBlock w w' ∧ (∀ g, sv'.ownBlock = some g → sv.ownBlock = some g ∨ w.heap.size ≤ g)) ∧ (∀ g, v.ownBlock = some g → sv'.ownBlock ≠ some g)
theorem LeftA.left {rf : Bool} {B z : Nat} {sv v : Value} {o' : Bool} {os' : List Op3} {w w' : World} (h : LeftA rf B z sv v o' os' w w') : Left rf B z sv o' os' w w' := by
  obtain ⟨sv', h1, _⟩ := h
  exact ⟨sv', h1⟩
theorem Left.nil_ {rf : Bool} {B z : Nat} {sv : Value} {o' : Bool} {os' : List Op3} {w w' : World} (h : Left rf B z sv o' os' w w') : LeftA rf B z sv (.slice none 0 0) o' os' w w' := by
  obtain ⟨sv', h1⟩ := h
  exact ⟨sv', h1, fun g hg => by cases hg⟩
/-- What Done tells. -/
def Dones (rf : Bool) (B z : Nat) (sv : Value) (r : Int) (res : List Op3) (o' : Bool) (os' : List Op3) (w : World) (e : Ending) (w' : World) : Prop :=
  ∃ v, e = .returned (.tuple #[v, .int .i64 r]) ∧ w'.ownsRow w.heap.size 43 3 v res.length (opc res) ∧ LeftA rf B z sv v o' os' w w'
theorem dones_eq {rf : Bool} {B z : Nat} {sv : Value} {r r' : Int} {res res' : List Op3} {o' o'' : Bool} {os' os'' : List Op3} {w w' : World} {v : Value} (hr : r' = r) (hres : res' = res) (ho : o'' = o') (hos : os'' = os') (hv : w'.ownsRow w.heap.size 43 3 v res.length (opc res)) (hl : LeftA rf B z sv v o' os' w w') :
    Dones rf B z sv r' res' o'' os'' w (.returned (.tuple #[v, .int .i64 r])) w' := by
  subst hr hres ho hos
  exact ⟨v, rfl, hv, hl⟩
theorem dones_no {rf : Bool} {B z : Nat} {sv : Value} {o : Bool} {os : List Op3} {w w' : World} {r : Int} (hE : doneE o os = r) (hr : r ≠ 0) (h : Left rf B z sv o os w w') : Dones rf B z sv (doneE o os) (doneL o os) (doneO o os) (doneR o os) w (.returned (.tuple #[.slice none 0 0, .int .i64 r])) w' :=
  dones_eq hE (if_neg (by rw [hE]; exact hr)) (if_neg (by rw [hE]; exact hr)) (if_neg (by rw [hE]; exact hr)) (World.ownsRow_nil _ _ _ _) h.nil_
theorem dones_no' {rf : Bool} {B z : Nat} {sv : Value} {o : Bool} {os : List Op3} {w w' : World} {r : Int} (hE : doneE o os = r) (hr : r ≠ 0) (h : Left rf B z sv o os w w') : Dones rf B z sv (doneE o os) (doneL o os) (doneO o os) os w (.returned (.tuple #[.slice none 0 0, .int .i64 r])) w' :=
  dones_eq hE (if_neg (by rw [hE]; exact hr)) (if_neg (by rw [hE]; exact hr)) rfl (World.ownsRow_nil _ _ _ _) h.nil_
theorem doneE_empty {os : List Op3} (h : os.length = 0) : doneE false os = 2 := by unfold doneE; rw [if_neg (by decide), if_pos h]
theorem doneE_ok {os : List Op3} (h : ¬os.length = 0) : doneE false os = 0 := by unfold doneE; rw [if_neg (by decide), if_neg h]
theorem left_over_a {B z : Nat} {sv : Value} {os : List Op3} {w W W2 : World} (h : TX false W B z false sv os) (hb : Below w.heap.size w W) (hc : Below W.heap.size W W2) (v : Value) :
    LeftA false B z sv v true [] w ((W2.setCell ⟨z, 1, none⟩ (.bool true)).setCell ⟨z, 2, none⟩ (.slice none 0 0)) := by
  have hz2 : Blk W2 z 50 #[.bool true, .bool false, sv] := h.blk.later hc
  have hgb := gb_setCell (p := ⟨z, 2, none⟩) (.slice none 0 0) (gb_setCell (p := ⟨z, 1, none⟩) (.bool true) (World.grownBy.refl W2 (some z)))
  have h2 : Two z none w W2 := Two.of_below (bl_trans hb hc hb.size)
  refine ⟨.slice none 0 0, ⟨⟨h.hB, ?_, World.ownsRow_nil _ _ _ _, by simp⟩, (Two.of_below (bl_trans hb hc hb.size)).trans (r' := none) (Two.of_z hgb) (fun g hg => by cases hg), fun g hg => by simp [Value.ownBlock] at hg⟩, fun g hg hg2 => by cases hg2⟩
  have := (hz2.set_ 1 (.bool true)).set_ 2 (.slice none 0 0)
  exact this
set_option maxHeartbeats 2000000 in
set_option maxRecDepth 100000 in
theorem done14 {B z : Nat} {o : Bool} {sv : Value} {os : List Op3} {w : World} (h : TX false w B z o sv os) : Calls Try.prog 14 #[P z] w (Dones false B z sv (doneE o os) (doneL o os) (doneO o os) (doneR o os) w) := by
  have hmf : ∀ (fn : Fn) (first cap : Array Value) (w : World), (Instr.makeFunc fn first cap).run Try.prog w = .ok (.func fn first cap) w := fun _ _ _ _ => rfl
  have hb := (Below.refl w.heap.size w).alloc (Nat.le_refl _) (.cells #[P z] 24)
  have kt := Blk.new w 24 #[P z]
  obtain ⟨W, hW⟩ : ∃ W, W = w.alloc (.cells #[P z] 24) := ⟨_, rfl⟩
  rw [← hW] at hb kt
  have h1 := h.later hb
  have hl8 := h.le
  obtain ⟨A, c, rfl, hc1, hc2⟩ := owned_slice h1.own
  have t0 : W.cell? ⟨w.heap.size, 0, none⟩ = some (P z) := kt.cell 0
  have kz : Blk W z 50 #[.bool true, .bool o, .slice A os.length c] := h1.blk
  have z2 : W.cell? ⟨z, 2, none⟩ = some (.slice A os.length c) := kz.cell 2
  have HB := hid hb
  have H1 := hid h1
  have KT := hid kt
  have hne : w.heap.size ≠ z := fun e => by have := h.blk.lt; omega
  cases o with
  | true =>
    have hwr : Calls Try.prog 26 #[P z] W (fun e w' => e = .returned (.int .i64 6) ∧ w' = W) := wrong26 h1
    clear h h1 hb kt kz
    go_enter_defers Try.func14, Try.ntmps14
    go_wp2_with (go_at_call 26; refine stop_ (fun Ps hPs => ?_))
    refine hPs ?_
    clear hPs Ps
    rw [← hW]
    clear hW
    refine hwr.mono ?_
    clear hwr
    rintro e w1 ⟨rfl, h9⟩
    subst h9
    go_wp2_with fail
    refine ⟨_, results_tmp2 rfl _ _ _, ?_⟩
    exact dones_no (o := true) rfl (by decide) (Left.from_ HB.out (Left.same H1.out (Below.refl _ _)))
  | false =>
    have hwr : Calls Try.prog 26 #[P z] W (fun e w' => e = .returned (.int .i64 0) ∧ w' = W) := wrong26 h1
    by_cases h0 : os.length = 0
    · have q0 : ((os.length : Int) == 0) = true := by simp [h0]
      have HE := hid (doneE_empty h0)
      clear h h1 hb kt kz h0
      go_enter_defers Try.func14, Try.ntmps14
      go_wp2_with (go_at_call 26; refine stop_ (fun Ps hPs => ?_))
      refine hPs ?_
      clear hPs Ps
      rw [← hW]
      clear hW
      refine hwr.mono ?_
      clear hwr
      rintro e w1 ⟨rfl, h9⟩
      subst h9
      go_wp2_with fail
      refine ⟨_, results_tmp2 rfl _ _ _, ?_⟩
      exact dones_no HE.out (by decide) (Left.from_ HB.out (Left.same H1.out (Below.refl _ _)))
    · have q0 : ((os.length : Int) == 0) = false := by simp [h0]
      have HE := hid (doneE_ok h0)
      have hcl := clone28 A os.length c os W h1.os (by omega)
      clear h h1 hb kt kz
      go_enter_defers Try.func14, Try.ntmps14
      go_wp2_with (go_at_call 26; refine stop_ (fun Ps hPs => ?_))
      refine hPs ?_
      clear hPs Ps
      rw [← hW]
      clear hW
      refine hwr.mono ?_
      clear hwr
      rintro e w1 ⟨rfl, h9⟩
      subst h9
      go_wp2_with (go_at_call 28; refine stop_ (fun Ps hPs => ?_))
      refine hPs ?_
      clear hPs Ps
      refine hcl.mono ?_
      clear hcl
      rintro e w2 ⟨v2, rfl, ho2, hb2⟩
      have kt2 := KT.out.later hb2
      have h2 := H1.out.later hb2
      have hB2 := HB.out.trans (hb2.mono HB.out.size)
      have kz2 : Blk w2 z 50 #[.bool true, .bool false, .slice A os.length c] := h2.blk
      have HO2 := hid ho2
      have HB2 := hid hB2
      have HC := hid hb2
      have H2 := hid h2
      clear ho2 hb2 hB2 h2
      go_wp2_with fail
      refine leaves_cons (f := 27) (args := #[.pointer (some ⟨w.heap.size, 0, none⟩)]) (by simp) (by simp [go_sem]) ?_
      refine (over27 w.heap.size z .returning w2 (kt2.cell 0) (kz2.cell 1) (kz2.cell 2) (kz2.frozen 1) (kz2.frozen 2)).mono ?_
      rintro e u' w3 ⟨rfl, rfl, rfl⟩
      refine ⟨_, results_tmp2 rfl _ _ _, ?_⟩
      refine dones_eq HE.out (if_pos HE.out) (if_pos HE.out) (if_pos HE.out) ?_ (left_over_a H1.out HB.out HC.out v2)
      refine owned_less (owned_gb HO2.out (gb_setCell (p := ⟨z, 2, none⟩) (.slice none 0 0) (gb_setCell (p := ⟨z, 1, none⟩) (.bool true) (World.grownBy.refl w2 (some z)))) (fun g hg he => ?_)) HB.out.size
      exact owned_blk_ne HO2.out H2.out.blk (tty_ne false) g hg (Option.some.inj he)
set_option maxHeartbeats 2000000 in
set_option maxRecDepth 100000 in
theorem done35 {B z : Nat} {o : Bool} {sv : Value} {os : List Op3} {w : World} (h : TX true w B z o sv os) : Calls Try.prog 35 #[P z] w (Dones true B z sv (doneE o os) (doneL o os) (doneO o os) os w) := by
  have hl8 := h.le
  obtain ⟨A, c, rfl, hc1, hc2⟩ := owned_slice h.own
  have kz : Blk w z 62 #[.bool true, .slice A os.length c, .bool o] := h.blk
  have z2 : w.cell? ⟨z, 1, none⟩ = some (.slice A os.length c) := kz.cell 1
  have z3 : w.cell? ⟨z, 2, none⟩ = some (.bool o) := kz.cell 2
  have f3 := kz.frozen 2
  have H1 := hid h
  cases o with
  | true =>
    have hwr : Calls Try.prog 37 #[P z] w (fun e w' => e = .returned (.int .i64 6) ∧ w' = w) := asked37 h
    clear h kz
    go_enter Try.func35, Try.ntmps35
    go_wp2_with (go_at_call 37; refine hwr.mono ?_; clear hwr; rintro e w1 ⟨rfl, rfl⟩)
    go_ret2
    exact dones_no' (o := true) rfl (by decide) (Left.same H1.out (Below.refl _ _))
  | false =>
    have hwr : Calls Try.prog 37 #[P z] w (fun e w' => e = .returned (.int .i64 0) ∧ w' = w) := asked37 h
    by_cases h0 : os.length = 0
    · have q0 : ((os.length : Int) == 0) = true := by simp [h0]
      have HE := hid (doneE_empty h0)
      clear h kz h0
      go_enter Try.func35, Try.ntmps35
      go_wp2_with (go_at_call 37; refine hwr.mono ?_; clear hwr; rintro e w1 ⟨rfl, rfl⟩)
      go_ret2
      exact dones_no' HE.out (by decide) (Left.same H1.out (Below.refl _ _))
    · have q0 : ((os.length : Int) == 0) = false := by simp [h0]
      have HE := hid (doneE_ok h0)
      clear h
      go_enter Try.func35, Try.ntmps35
      go_wp2_with (go_at_call 37; refine stop_ (fun Ps hPs => ?_))
      refine hPs ?_
      clear hPs Ps
      refine hwr.mono ?_
      clear hwr
      rintro e w1 ⟨rfl, rfl⟩
      go_wp2_with (go_at_call 41; refine stop_ (fun Ps hPs => ?_))
      refine hPs ?_
      clear hPs Ps
      have hl := left_over' H1.out (Below.refl _ _)
      obtain ⟨W, hW⟩ : ∃ W, W = w1.setCell ⟨z, 2, none⟩ (.bool true) := ⟨_, rfl⟩
      rw [← hW] at hl ⊢
      obtain ⟨sv', h1, h2, h3⟩ := hl
      have kz2 := kz.set_ 2 (.bool true)
      rw [← hW] at kz2
      have hsv : sv' = .slice A os.length c := by
        have e1 := h1.blk.cell 1
        have e2 := kz2.cell 1
        rw [e1] at e2
        simpa [tcs] using e2
      subst hsv
      refine (own41 A os.length c os W h1.os (by omega)).mono ?_
      rintro e w2 ⟨v2, rfl, ho2, hb2⟩
      have hL : LeftA true B z (.slice A os.length c) v2 true os w1 w2 := ⟨_, ⟨h1.later hb2, h2.trans (Two.of_below hb2) (fun g hg => .inl hg), h3⟩, fun g hg hg2 => by have := (ho2.lt g hg).1; have := (h1.own.lt g hg2).2; omega⟩
      have hs : w1.heap.size ≤ W.heap.size := h2.size
      have HL := hid hL
      have HO2 := hid (owned_less ho2 hs)
      clear hL ho2 hb2 h1 h2 h3 kz kz2 hW hs
      go_wp2_with fail
      go_ret2
      exact dones_eq HE.out (if_pos HE.out) (if_pos HE.out) rfl HO2.out HL.out
end Go.Proofs.Ytlbekgephjlffaa
