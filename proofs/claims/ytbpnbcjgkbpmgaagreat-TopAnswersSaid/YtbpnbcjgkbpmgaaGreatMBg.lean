/- A primary answers without waiting for the other site, as many times as its leash allows: of any acts. No condition. (part 33) -/
import Derived.Test.YtbpnbcjgkbpmgaaGreatMBf
namespace Go.Proofs.YtbpnbcjgkbpmgaaGreat
open Go.RowKit Go.Lg Ds St
set_option linter.unusedVariables false
set_option linter.unusedSimpArgs false
theorem field43_0 (a b c d e f : Value) (w : World) : Sem.run Tryz.prog (Instr.field 43 (.agg #[a, b, c, d, e, f]) 0) w = .ok a w := by kernel_rfl
theorem field43_1 (a b c d e f : Value) (w : World) : Sem.run Tryz.prog (Instr.field 43 (.agg #[a, b, c, d, e, f]) 1) w = .ok b w := by kernel_rfl
theorem field43_2 (a b c d e f : Value) (w : World) : Sem.run Tryz.prog (Instr.field 43 (.agg #[a, b, c, d, e, f]) 2) w = .ok c w := by kernel_rfl
attribute [local go_sem] field190 field43_0 field43_1 field43_2
def BoxR (b : Nat) (T : World → Nat → Value → Prop) (X w' : World) : Prop := ∃ w1 v, Lat X w1 ∧ T w1 X.heap.size v ∧ w' = w1.setCell ⟨b, 0, none⟩ v
theorem does_box {X w1 : World} {lo b : Nat} {er : Int} {T : World → Nat → Value → Prop} {v : Value} (l : Lat X w1) (hb : b < lo) (hT : T w1 X.heap.size v) : Does lo er (BoxR b T) X (.returned (.int .i64 er)) (w1.setCell ⟨b, 0, none⟩ v) :=
  ⟨rfl, by simpa [World.setCell] using l.size, fun k h1 h2 => (Below.heap_setCell w1 ⟨b, 0, none⟩ v k (by show k ≠ b; omega)).trans (l.b.block k h2), w1, v, l, hT, rfl⟩
set_option maxHeartbeats 2000000 in
set_option maxRecDepth 100000 in
theorem ndtick141 {w : World} {F : Fp} {nz dz z wz rz sz ro b1 b2 lo : Nat} {num most ac kn : Int} {cs : List Cmt} (hsb : Sb w F z dz wz rz sz ⟨1, ro, 0, 0, 0, 0⟩ cs) (hbk : Blk w nz 149 (ndc num most dz z ac kn)) (h1 : One 0 cs) (hcs : cs.length ≤ 1000) (hro : ro = 1 ∨ ro = 2)
    (k1 : Blk w b1 65 #[P nz]) (k2 : Blk w b2 105 #[.slice none 0 0]) (hlo : b2 < lo) :
    Calls Tryz.prog 141 #[P z, P b1, P b2] w (Does lo 0 (BoxR b2 fun w1 n v => Bb w1 (fun k => n ≤ k) v ((dueM ro cs kn).map Msg.enc)) w) := by
  have hPG := stpage78 hsb
  have hDU : ∀ X, Lat w X → Calls Tryz.prog 143 #[P nz, P z] X (DueIs ((dueM ro cs kn).map Msg.enc) X) := fun X l => nddue143 (hsb.mv (bmv l.b _)) (l.blk hbk) h1 hcs hro
  obtain ⟨bs, hbs⟩ : ∃ bs, bs = (dueM ro cs kn).map Msg.enc := ⟨_, rfl⟩
  rw [← hbs] at hDU ⊢
  clear hbs
  have hr3 : ¬(ro : Int) = 3 := by omega
  have HDU := hid hDU
  have HK1 := hid k1
  have HK2 := hid k2
  clear hDU hsb hbk h1 k1 k2
  go_enter Tryz.func141, Tryz.ntmps141
  go_wp2_with (first | (go_at_call 143; refine stop_ (fun Ps hPs => ?_)) | (go_at_call 78; (with_reducible refine hPG.mono ?_); rintro e' w1 ⟨rfl, hb1⟩; have l1 : Lat w w1 := ⟨hb1⟩; have q1 : w1.cell? ⟨b1, 0, none⟩ = some (P nz) := (l1.blk HK1.out).cell 0; have HL1 := hid l1; have hdu := HDU.out _ l1; clear l1 hb1))
  refine hPs ?_
  clear hPs Ps
  refine hdu.mono ?_
  rintro e' w2 ⟨v2, rfl, hv2, hb2⟩
  have l2 := HL1.out.below hb2
  have kk := l2.blk HK2.out
  have f2 : w2.frozen? ⟨b2, 0, none⟩ = false := kk.frozen 0
  have c2 : w2.cell? ⟨b2, 0, none⟩ = some (.slice none 0 0) := kk.cell 0
  obtain ⟨A2, m2, hv, _⟩ := hv2.len
  have HV := hid (hv2.to (G := fun k => w.heap.size ≤ k) fun k hk => Nat.le_trans HL1.out.size hk)
  have HL2 := hid l2
  subst hv
  clear hv2 l2 kk hb2 hdu hPG
  go_wp2_with fail
  go_ret
  exact does_box HL2.out hlo HV.out
set_option maxHeartbeats 2000000 in
set_option maxRecDepth 100000 in
theorem ndtick87 {w : World} {tag : Nat → Nat} {t dz nz z B ro : Nat} {num most ac kn : Int} {cs : List Cmt} (h : NM w tag t dz nz z num most ac kn ⟨1, ro, 0, 0, 0, 0⟩ cs B) (h1 : One 0 cs) (hcs : cs.length ≤ 1000) (hro : ro = 1 ∨ ro = 2) :
    Calls Tryz.prog 87 #[P nz] w fun e w' => ∃ v, e = .returned (.tuple #[v, .int .i64 0]) ∧ Bb w' (fun k => w.heap.size ≤ k) v ((dueM ro cs kn).map Msg.enc) ∧ Below w.heap.size w w' := by
  have hmf : ∀ (fn : Fn) (first cap : Array Value) (w : World), (Instr.makeFunc fn first cap).run Tryz.prog w = .ok (.func fn first cap) w := fun _ _ _ _ => rfl
  obtain ⟨W, hW⟩ : ∃ W, W = (w.alloc (.cells #[P nz] 65)).alloc (.cells #[.slice none 0 0] 105) := ⟨_, rfl⟩
  have lW : Lat w W := by rw [hW]; exact ((Lat.refl w).alloc _).alloc _
  have k1 : Blk W w.heap.size 65 #[P nz] := by rw [hW]; exact (Blk.new w 65 _).alloc _
  have k2 : Blk W (w.heap.size + 1) 105 #[.slice none 0 0] := by
    rw [hW]
    have := Blk.new (w.alloc (.cells #[P nz] 65)) 105 #[.slice none 0 0]
    simpa using this
  have hWs : W.heap.size = w.heap.size + 2 := by rw [hW]; simp
  have hW1 := h.later lW
  have hb := nddo75 (fn := 141) (caps := #[P w.heap.size, P (w.heap.size + 1)]) (er := 0) (R := BoxR (w.heap.size + 1) fun w1 n v => Bb w1 (fun k => n ≤ k) v ((dueM ro cs kn).map Msg.enc)) hW1.blk.1 (by decide) (fun X l => nm_on hW1 l) (fun args w => rfl) (fun X l => by
    obtain ⟨wz, rz, sz, n, es, fs, sm, blk, _⟩ := hW1.later l
    exact ndtick141 sm.sb blk h1 hcs hro (l.blk k1) (l.blk k2) (by omega))
  obtain ⟨bs, hbs⟩ : ∃ bs, bs = (dueM ro cs kn).map Msg.enc := ⟨_, rfl⟩
  rw [← hbs] at hb ⊢
  clear hbs
  have q1 : W.cell? ⟨w.heap.size, 0, none⟩ = some (P nz) := k1.cell 0
  have HL := hid lW
  have HS := hid hWs
  have HK2 := hid k2
  clear h h1 k1 k2 hW1 lW
  go_enter Tryz.func87, Tryz.ntmps87
  go_upto_region 1 with fail
  rw [← hW]
  clear hW
  go_wp2_with (go_at_call 75; refine stop_ (fun Ps hPs => ?_))
  refine hPs ?_
  clear hPs Ps
  refine hb.mono ?_
  rintro e' w' ⟨rfl, X, w1, l, ⟨w0, v, l0, hv, rfl⟩, hs, hm2⟩
  have hsz := HS.out
  obtain ⟨A2, m2, hv2, _⟩ := hv.len
  have kb : Blk w0 (w.heap.size + 1) 105 #[.slice none 0 0] := (l.trans l0).blk HK2.out
  have kb2 : Blk (w0.setCell ⟨w.heap.size + 1, 0, none⟩ v) (w.heap.size + 1) 105 #[v] := kb.set_ 0 v
  have kb3 : Blk w' (w.heap.size + 1) 105 #[v] := (hm2.block _ kb2.lt (fun h4 => by have h5 : W.heap.size ≤ w.heap.size + 1 := h4.1; omega)).trans kb2
  have hX : w.heap.size ≤ X.heap.size := (HL.out.trans l).size
  have hm : Mod (fun k => w.heap.size ≤ k ∧ k < X.heap.size) w0 w' := ((Mod.setCell (F := fun k => w.heap.size ≤ k ∧ k < X.heap.size) (p := ⟨w.heap.size + 1, 0, none⟩) (by show w.heap.size ≤ w.heap.size + 1 ∧ w.heap.size + 1 < X.heap.size; have := l.size; omega) v)).trans_ (hm2.more fun k hk => by have h5 := hk.1; have h6 := hk.2; omega)
  have hvw : Bb w' (fun k => w.heap.size ≤ k) v bs := (hv.mv (hm.mv fun k a b => by have h5 : X.heap.size ≤ k := a; have h6 := b.2; omega)).to fun k hk => Nat.le_trans hX hk
  have hbw : Below w.heap.size w w' := by
    have h5 := (HL.out.trans (l.trans l0)).b
    exact h5.trans ⟨hm.os, hm.tape, hm.output, hm.size, fun k hk => hm.block k (Nat.lt_of_lt_of_le hk h5.size) (fun h6 => by have := h6.1; omega)⟩
  subst hv2
  have c3 : w'.cell? ⟨w.heap.size + 1, 0, none⟩ = some (.slice A2 bs.length m2) := kb3.cell 0
  have f3 : w'.frozen? ⟨w.heap.size + 1, 0, none⟩ = false := kb3.frozen 0
  have kb4 := kb3.set_ 0 (.slice A2 bs.length m2)
  have c4 : (w'.setCell ⟨w.heap.size + 1, 0, none⟩ (.slice A2 bs.length m2)).cell? ⟨w.heap.size + 1, 0, none⟩ = some (.slice A2 bs.length m2) := kb4.cell 0
  have hbf : Bb (w'.setCell ⟨w.heap.size + 1, 0, none⟩ (.slice A2 bs.length m2)) (fun k => w.heap.size ≤ k) (.slice A2 bs.length m2) bs := by
    obtain ⟨vs, row, el⟩ := hvw
    exact ⟨vs, Sl.setz row kb3 (by decide) 0 _, fun j b hj => by obtain ⟨A, c, h6, h7⟩ := el j b hj; exact ⟨A, c, h6, Sl.setz h7 kb3 (by decide) 0 _⟩⟩
  have HB := hid hbf
  have HW := hid (hbw.setCell (p := ⟨w.heap.size + 1, 0, none⟩) (by show w.heap.size ≤ w.heap.size + 1; omega) (.slice A2 bs.length m2))
  clear hb q1 hm hm2 hvw hbw kb kb2 kb3 kb4 hv l l0 hs hX hsz hbf
  go_wp2_with fail
  refine bodyPost_ret (by simp [results, Tryz.results87, go_sem, c4]; try rfl) rfl ?_
  exact ⟨_, rfl, HB.out, HW.out⟩
end Go.Proofs.YtbpnbcjgkbpmgaaGreat
namespace Go.Proofs.YtbpnbcjgkbpmgaaGreat
open Go.RowKit Go.Lg Ds St
set_option linter.unusedVariables false
set_option linter.unusedSimpArgs false
attribute [local go_sem] field190 field43_0 field43_1 field43_2
def RdR (b4 b5 : Nat) (r : ByteArray × Bool) (X w' : World) : Prop := ∃ w1, Lat X w1 ∧ w' = (w1.setCell ⟨b4, 0, none⟩ (.string r.1)).setCell ⟨b5, 0, none⟩ (.bool r.2)
theorem reads_ok {ro : Nat} (hro : ro = 1 ∨ ro = 2) : Pp.reads ⟨1, ro, 0, 0, 0, 0⟩ = 0 := by
  rcases hro with rfl | rfl <;> decide
set_option maxHeartbeats 2000000 in
set_option maxRecDepth 100000 in
theorem ndread93 {w : World} {F G H : Fp} {dz z wz rz sz ro b3 b4 b5 lo n : Nat} {cs : List Cmt} (hsb : Sb w F z dz wz rz sz ⟨1, ro, 0, 0, 0, 0⟩ cs) (hs : Sr w H sz rz n cs) (hr : R0 w G rz dz) (hro : ro = 1 ∨ ro = 2) (key : ByteArray) (hk : key.size ≤ maxLen)
    (k3 : Blk w b3 9 #[.string key]) (k4 : Blk w b4 9 #[.string ⟨#[]⟩]) (k5 : Blk w b5 4 #[.bool false]) (hlo : b4 < lo ∧ b5 < lo) (hne : b4 ≠ b5) :
    Calls Tryz.prog 93 #[P z, P b3, P b4, P b5] w (Does lo 0 (RdR b4 b5 (told (tabOf cs (kb key)))) w) := by
  have hPG := stpage78 hsb
  have hRD : ∀ X, Calls Tryz.prog 94 #[.agg #[.int .i64 1, .int .u8 (ro : Int), .int .i64 0, .int .u8 0, .int .i64 0, .int .i64 0]] X fun e w' => e = .returned (.int .i64 0) ∧ Below X.heap.size X w' := fun X => by
    have := Pp.reads16 ⟨1, ro, 0, 0, 0, 0⟩ X
    rwa [reads_ok hro] at this
  have hGT : ∀ X, Lat w X → Calls Tryz.prog 95 #[P z, .string key] X (SGet (told (tabOf cs (kb key))) X) := fun X l => stget95 (hsb.mv (bmv l.b _)) (hs.mv (bmv l.b _)) (hr.mv (bmv l.b _)) key hk
  obtain ⟨r, hrr⟩ : ∃ r, r = told (tabOf cs (kb key)) := ⟨_, rfl⟩
  rw [← hrr] at hGT ⊢
  have HRD := hid hRD
  have HGT := hid hGT
  have HK3 := hid k3
  have HK4 := hid k4
  have HK5 := hid k5
  clear hRD hGT k3 k4 k5 hsb hs hr hrr
  go_enter Tryz.func93, Tryz.ntmps93
  go_wp2_with (first
    | (go_at_call 78; (with_reducible refine hPG.mono ?_); rintro e' w1 ⟨rfl, hb1⟩; have l1 : Lat w w1 := ⟨hb1⟩; have HL1 := hid l1; clear l1 hb1)
    | (go_at_call 94; (with_reducible refine (HRD.out _).mono ?_); rintro e' w2 ⟨rfl, hb2⟩; have l2 := HL1.out.below hb2; have q3 : w2.cell? ⟨b3, 0, none⟩ = some (.string key) := (l2.blk HK3.out).cell 0; have HL2 := hid l2; clear l2 hb2)
    | (go_at_call 95; refine stop_ (fun Ps hPs => ?_)))
  refine hPs ?_
  clear hPs Ps
  refine (HGT.out _ HL2.out).mono ?_
  rintro e' w3 ⟨rfl, hb3⟩
  have l3 := HL2.out.below hb3
  have a4 := l3.blk HK4.out
  have a5 := l3.blk HK5.out
  have f4 : w3.frozen? ⟨b4, 0, none⟩ = false := a4.frozen 0
  have c4 : w3.cell? ⟨b4, 0, none⟩ = some (.string ⟨#[]⟩) := a4.cell 0
  have a5' := a5.far (p := ⟨b4, 0, none⟩) (by show b5 ≠ b4; exact fun e => hne e.symm) (.string r.1)
  have f5 : (w3.setCell ⟨b4, 0, none⟩ (.string r.1)).frozen? ⟨b5, 0, none⟩ = false := a5'.frozen 0
  have c5 : (w3.setCell ⟨b4, 0, none⟩ (.string r.1)).cell? ⟨b5, 0, none⟩ = some (.bool false) := a5'.cell 0
  have HL3 := hid l3
  clear a4 a5 a5' l3 hb3 HL1 q3 hPG HRD
  go_wp2_with fail
  go_ret
  refine ⟨rfl, by simpa [World.setCell] using HL3.out.size, fun k h1 h2 => ?_, w3, HL3.out, rfl⟩
  rw [Below.heap_setCell _ ⟨b5, 0, none⟩ _ k (by show k ≠ b5; omega), Below.heap_setCell _ ⟨b4, 0, none⟩ _ k (by show k ≠ b4; omega)]
  exact HL3.out.b.block k h2
set_option maxHeartbeats 2000000 in
set_option maxRecDepth 100000 in
theorem ndread54 {w : World} {tag : Nat → Nat} {t dz nz z B ro : Nat} {num most ac kn : Int} {cs : List Cmt} (h : NM w tag t dz nz z num most ac kn ⟨1, ro, 0, 0, 0, 0⟩ cs B) (hro : ro = 1 ∨ ro = 2) (key : ByteArray) (hk : key.size ≤ maxLen) :
    Calls Tryz.prog 54 #[P nz, .string key] w fun e w' => e = .returned (.tuple #[.string (told (tabOf cs (kb key))).1, .bool (told (tabOf cs (kb key))).2, .int .i64 0]) ∧ Below w.heap.size w w' := by
  have hmf : ∀ (fn : Fn) (first cap : Array Value) (w : World), (Instr.makeFunc fn first cap).run Tryz.prog w = .ok (.func fn first cap) w := fun _ _ _ _ => rfl
  obtain ⟨W, hW⟩ : ∃ W, W = ((w.alloc (.cells #[.string key] 9)).alloc (.cells #[.string ⟨#[]⟩] 9)).alloc (.cells #[.bool false] 4) := ⟨_, rfl⟩
  have lW : Lat w W := by rw [hW]; exact (((Lat.refl w).alloc _).alloc _).alloc _
  have k3 : Blk W w.heap.size 9 #[.string key] := by rw [hW]; exact ((Blk.new w 9 _).alloc _).alloc _
  have k4 : Blk W (w.heap.size + 1) 9 #[.string ⟨#[]⟩] := by
    rw [hW]
    have := (Blk.new (w.alloc (.cells #[.string key] 9)) 9 #[.string ⟨#[]⟩]).alloc (.cells #[.bool false] 4)
    simpa using this
  have k5 : Blk W (w.heap.size + 2) 4 #[.bool false] := by
    rw [hW]
    have := Blk.new ((w.alloc (.cells #[.string key] 9)).alloc (.cells #[.string ⟨#[]⟩] 9)) 4 #[.bool false]
    simpa using this
  have hWs : W.heap.size = w.heap.size + 3 := by rw [hW]; simp
  have hW1 := h.later lW
  have hb := nddo75 (fn := 93) (caps := #[P w.heap.size, P (w.heap.size + 1), P (w.heap.size + 2)]) (er := 0) (R := RdR (w.heap.size + 1) (w.heap.size + 2) (told (tabOf cs (kb key)))) hW1.blk.1 (by decide) (fun X l => nm_on hW1 l) (fun args w => rfl) (fun X l => by
    obtain ⟨wz, rz, sz, n, es, fs, sm, blk, _⟩ := hW1.later l
    exact ndread93 sm.sb sm.sr sm.r0 hro key hk (l.blk k3) (l.blk k4) (l.blk k5) (by omega) (by omega))
  obtain ⟨r, hrr⟩ : ∃ r, r = told (tabOf cs (kb key)) := ⟨_, rfl⟩
  rw [← hrr] at hb ⊢
  have HL := hid lW
  have HS := hid hWs
  have HK4 := hid k4
  have HK5 := hid k5
  clear h k3 k4 k5 hW1 lW hrr
  go_enter Tryz.func54, Tryz.ntmps54
  go_upto_region 1 with fail
  rw [← hW]
  clear hW
  go_wp2_with (go_at_call 75; refine stop_ (fun Ps hPs => ?_))
  refine hPs ?_
  clear hPs Ps
  refine hb.mono ?_
  rintro e' w' ⟨rfl, X, w1, l, ⟨w0, l0, rfl⟩, hs, hm2⟩
  have hsz := HS.out
  have a4 := (((l.trans l0).blk HK4.out).set_ 0 (.string r.1)).far (p := ⟨w.heap.size + 2, 0, none⟩) (by show w.heap.size + 1 ≠ w.heap.size + 2; omega) (.bool r.2)
  have a5 := (((l.trans l0).blk HK5.out).far (p := ⟨w.heap.size + 1, 0, none⟩) (by show w.heap.size + 2 ≠ w.heap.size + 1; omega) (.string r.1)).set_ 0 (.bool r.2)
  have b4 : Blk w' (w.heap.size + 1) 9 #[.string r.1] := (hm2.block _ a4.lt (fun h4 => by have h5 : W.heap.size ≤ w.heap.size + 1 := h4.1; omega)).trans a4
  have b5 : Blk w' (w.heap.size + 2) 4 #[.bool r.2] := (hm2.block _ a5.lt (fun h4 => by have h5 : W.heap.size ≤ w.heap.size + 2 := h4.1; omega)).trans a5
  have h5 := ((HL.out.trans (l.trans l0)).b.setCell (p := ⟨w.heap.size + 1, 0, none⟩) (by show w.heap.size ≤ w.heap.size + 1; omega) (.string r.1)).setCell (p := ⟨w.heap.size + 2, 0, none⟩) (by show w.heap.size ≤ w.heap.size + 2; omega) (.bool r.2)
  have hbw : Below w.heap.size w w' := h5.trans ⟨hm2.os, hm2.tape, hm2.output, hm2.size, fun k hk => hm2.block k (Nat.lt_of_lt_of_le hk h5.size) (fun h6 => by have h7 : W.heap.size ≤ k := h6.1; omega)⟩
  have c4 : w'.cell? ⟨w.heap.size + 1, 0, none⟩ = some (.string r.1) := b4.cell 0
  have c5 : w'.cell? ⟨w.heap.size + 2, 0, none⟩ = some (.bool r.2) := b5.cell 0
  have c5' : w'.cell? ⟨w.heap.size + 1 + 1, 0, none⟩ = some (.bool r.2) := b5.cell 0
  have f4 : w'.frozen? ⟨w.heap.size + 1, 0, none⟩ = false := b4.frozen 0
  have f5 : w'.frozen? ⟨w.heap.size + 1 + 1, 0, none⟩ = false := b5.frozen 0
  have HB := hid hbw
  have HB4 := hid b4
  have HB5 := hid b5
  clear a4 a5 b4 b5 h5 hbw hm2 hs l l0 hb
  go_upto_region 2 with fail
  have g5 := (HB5.out.far (p := ⟨w.heap.size + 1, 0, none⟩) (by show w.heap.size + 2 ≠ w.heap.size + 1; omega) (.string r.1))
  have g4 := (HB4.out.far (p := ⟨w.heap.size + 2, 0, none⟩) (by show w.heap.size + 1 ≠ w.heap.size + 2; omega) (.bool r.2))
  have f51 : (w'.setCell ⟨w.heap.size + 1, 0, none⟩ (.string r.1)).frozen? ⟨w.heap.size + 1 + 1, 0, none⟩ = false := g5.frozen 0
  have c51 : (w'.setCell ⟨w.heap.size + 1, 0, none⟩ (.string r.1)).cell? ⟨w.heap.size + 1 + 1, 0, none⟩ = some (.bool r.2) := g5.cell 0
  have f41 : (w'.setCell ⟨w.heap.size + 1 + 1, 0, none⟩ (.bool r.2)).frozen? ⟨w.heap.size + 1, 0, none⟩ = false := g4.frozen 0
  have c41 : (w'.setCell ⟨w.heap.size + 1 + 1, 0, none⟩ (.bool r.2)).cell? ⟨w.heap.size + 1, 0, none⟩ = some (.string r.1) := g4.cell 0
  have g44 := (HB4.out.set_ 0 (.string r.1)).far (p := ⟨w.heap.size + 2, 0, none⟩) (by show w.heap.size + 1 ≠ w.heap.size + 2; omega) (.bool r.2)
  have g55 := g5.set_ 0 (.bool r.2)
  have x4 : ((w'.setCell ⟨w.heap.size + 1, 0, none⟩ (.string r.1)).setCell ⟨w.heap.size + 1 + 1, 0, none⟩ (.bool r.2)).cell? ⟨w.heap.size + 1, 0, none⟩ = some (.string r.1) := g44.cell 0
  have x5 : ((w'.setCell ⟨w.heap.size + 1, 0, none⟩ (.string r.1)).setCell ⟨w.heap.size + 1 + 1, 0, none⟩ (.bool r.2)).cell? ⟨w.heap.size + 1 + 1, 0, none⟩ = some (.bool r.2) := g55.cell 0
  have g46 := g4.set_ 0 (.string r.1)
  have g56 := (HB5.out.set_ 0 (.bool r.2)).far (p := ⟨w.heap.size + 1, 0, none⟩) (by show w.heap.size + 2 ≠ w.heap.size + 1; omega) (.string r.1)
  have x6 : ((w'.setCell ⟨w.heap.size + 1 + 1, 0, none⟩ (.bool r.2)).setCell ⟨w.heap.size + 1, 0, none⟩ (.string r.1)).cell? ⟨w.heap.size + 1, 0, none⟩ = some (.string r.1) := g46.cell 0
  have x7 : ((w'.setCell ⟨w.heap.size + 1 + 1, 0, none⟩ (.bool r.2)).setCell ⟨w.heap.size + 1, 0, none⟩ (.string r.1)).cell? ⟨w.heap.size + 1 + 1, 0, none⟩ = some (.bool r.2) := g56.cell 0
  have y1 := (HB.out.setCell (p := ⟨w.heap.size + 1, 0, none⟩) (by show w.heap.size ≤ w.heap.size + 1; omega) (.string r.1)).setCell (p := ⟨w.heap.size + 1 + 1, 0, none⟩) (by show w.heap.size ≤ w.heap.size + 1 + 1; omega) (.bool r.2)
  have y2 := (HB.out.setCell (p := ⟨w.heap.size + 1 + 1, 0, none⟩) (by show w.heap.size ≤ w.heap.size + 1 + 1; omega) (.bool r.2)).setCell (p := ⟨w.heap.size + 1, 0, none⟩) (by show w.heap.size ≤ w.heap.size + 1; omega) (.string r.1)
  have Y1 := hid y1
  have Y2 := hid y2
  clear g4 g5 g44 g55 g46 g56 y1 y2
  go_region_law (fail)
  all_goals
    go_wp2_with fail
    refine bodyPost_ret (by simp [results, Tryz.results54, go_sem, x4, x5, x6, x7]; try rfl) rfl ?_
    first
      | exact ⟨rfl, (Lat.drew ⟨Y1.out⟩).b⟩
      | exact ⟨rfl, (Lat.drew ⟨Y2.out⟩).b⟩
      | exact ⟨rfl, Y1.out⟩
      | exact ⟨rfl, Y2.out⟩
end Go.Proofs.YtbpnbcjgkbpmgaaGreat
