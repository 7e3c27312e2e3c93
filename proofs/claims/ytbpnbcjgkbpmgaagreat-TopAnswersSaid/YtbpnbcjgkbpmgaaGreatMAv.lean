/- A primary answers without waiting for the other site, as many times as its leash allows: of any acts. No condition. (part 22) -/
import Derived.Test.YtbpnbcjgkbpmgaaGreatMAu
namespace Go.Proofs.YtbpnbcjgkbpmgaaGreat
open Go.RowKit Go.Lg Ds St
set_option linter.unusedVariables false
set_option linter.unusedSimpArgs false
attribute [local go_sem] field190
def ends1 {α : Type} (A : α → Act) (R : α → World → Prop) : Exit → Act → World → Prop
  | .normal, a, W => ∃ x1, a = A x1 ∧ R x1 W
  | _, _, _ => False
theorem merge1 {α : Type} {c : Code} {P : Program} {Q : Exit → Act → World → Prop} {a : Act} {w : World} (R : α → World → Prop) {A : α → Act} (h1 : c.wp P (ends1 A R) a w) (h2 : ∀ x1 W, R x1 W → Q .normal (A x1) W) : c.wp P Q a w :=
  Go.wp_mono h1 fun e a W h => by
    cases e <;> first | exact h.elim | (obtain ⟨x1, rfl, h⟩ := h; exact h2 x1 W h)
structure SM (w : World) (tag : Nat → Nat) (t dz wz rz sz z n : Nat) (p : Pg) (d : Dsk) (cs cs' : List Cmt) (es : List Nat) : Prop where
  dk : Dk w (Ow tag (t + 1)) dz d
  wl : Wl w (Ow tag (t + 2)) wz dz ⟨false, cs, es⟩
  r0 : R0 w (Ow tag (t + 3)) rz dz
  sr : Sr w (Ow tag (t + 4)) sz rz n cs'
  sb : Sb w (Ow tag (t + 5)) z dz wz rz sz p cs'
def Prt (t : Nat) : Nat → Prop := fun i => t + 1 ≤ i ∧ i ≤ t + 5
section
variable {w w' : World} {tag tag' : Nat → Nat} {t dz wz rz sz z n : Nat} {p : Pg} {d d' : Dsk} {cs cs' cs2 : List Cmt} {es es2 : List Nat}
theorem SM.later (h : SM w tag t dz wz rz sz z n p d cs cs' es) (l : Lat w w') : SM w' tag t dz wz rz sz z n p d cs cs' es :=
  ⟨h.dk.mv (bmv l.b _), h.wl.mv (bmv l.b _), h.r0.mv (bmv l.b _), h.sr.mv (bmv l.b _), h.sb.mv (bmv l.b _)⟩
theorem SM.disk (h : SM w tag t dz wz rz sz z n p d cs cs' es) (ht : Turn (fun i => i = t + 1 ∨ i = t + 2) w tag w' tag') (hd : Dk w' (Ow tag' (t + 1)) dz d') (hx : Wl w' (Ow tag' (t + 2)) wz dz ⟨false, cs2, es2⟩) : SM w' tag' t dz wz rz sz z n p d' cs2 cs' es2 :=
  ⟨hd, hx, h.r0.mv (ht.mv (by omega)), h.sr.mv (ht.mv (by omega)), h.sb.mv (ht.mv (by omega))⟩
theorem SM.own (h : SM w tag t dz wz rz sz z n p d cs cs' es) (ht : Turn (fun i => i = t + 5) w tag w' tag') (hx : Sb w' (Ow tag' (t + 5)) z dz wz rz sz p cs2) :
    Dk w' (Ow tag' (t + 1)) dz d ∧ Wl w' (Ow tag' (t + 2)) wz dz ⟨false, cs, es⟩ ∧ R0 w' (Ow tag' (t + 3)) rz dz ∧ Sr w' (Ow tag' (t + 4)) sz rz n cs' :=
  ⟨h.dk.mv (ht.mv (by omega)), h.wl.mv (ht.mv (by omega)), h.r0.mv (ht.mv (by omega)), h.sr.mv (ht.mv (by omega))⟩
theorem Sb.tried (h : Sb w (Ow tag (t + 5)) z dz wz rz sz p cs) : Sb (w.setCell ⟨z, 1, none⟩ (.bool false)) (Ow tag (t + 5)) z dz wz rz sz p cs := by
  obtain ⟨vL, ms, inz, blk, hms, cl⟩ := h
  exact ⟨vL, ms, inz, blk.set_ 1 _, hms, cl.setz blk (by decide) (by decide) 1 _⟩
theorem turn_set (hT : Tidy w tag) {b i : Nat} (u : Value) (hb : tag z = i) (hi : i ≠ 0) : Turn (fun k => k = i) w tag (w.setCell ⟨z, b, none⟩ u) tag :=
  ⟨Mod.setCell (p := ⟨z, b, none⟩) hb u, fun _ _ => rfl, fun k hk => .inl (hT k hk), fun k hk => hT k (by simpa [World.setCell] using hk)⟩
end
theorem SM.tried {w : World} {tag : Nat → Nat} {t dz wz rz sz z n : Nat} {p : Pg} {d : Dsk} {cs cs' : List Cmt} {es : List Nat} (hT : Tidy w tag) (h : SM w tag t dz wz rz sz z n p d cs cs' es) :
    Turn (Prt t) w tag (w.setCell ⟨z, 1, none⟩ (.bool false)) tag ∧ SM (w.setCell ⟨z, 1, none⟩ (.bool false)) tag t dz wz rz sz z n p d cs cs' es := by
  have htz : tag z = t + 5 := by obtain ⟨vL, ms, inz, _⟩ := h.sb; exact inz
  have ht := turn_set (b := 1) hT (.bool false) htz (by omega)
  obtain ⟨h1, h2, h3, h4⟩ := h.own ht h.sb.tried
  exact ⟨ht.more fun i hi => by subst hi; unfold Prt; omega, h1, h2, h3, h4, h.sb.tried⟩
theorem obj_mid {w w6 w8 : World} {F : Fp} {z B ix : Nat} {ty : TypeId} {cz : Array Value} {ms : List Cm} {v v8 : Value} {ep num : Int} {A6 : Option Addr} {k c6 : Nat} {os : List Op3} {o : Obj} (inz : F z) (blk : Blk w z ty cz) (t1 : 88 ≠ ty) (t2 : 77 ≠ ty) (cl : Cl w F v ms)
    (lX : Lat w w6) (hB : w.heap.size ≤ B) (ho6 : w6.ownsRow B 77 3 (.slice A6 k c6) k (opc os)) (hl : os.length = k) (hv8 : Sl w8 (fun i => F i ∨ (w6.alloc o).heap.size ≤ i) 88 3 v8 (ms.length + 1) (cmc ms ++ [.int .i64 ep, .int .i64 num, .slice A6 k c6]))
    (hg8 : (w6.alloc o).grownBy w8 v.ownBlock) : Blk (w8.setCell ⟨z, ix, none⟩ v8) z ty (cz.setIfInBounds ix v8) ∧ Cl (w8.setCell ⟨z, ix, none⟩ v8) (fun i => F i ∨ w.heap.size ≤ i) v8 (ms ++ [⟨ep, num, A6, k, c6, os⟩]) ∧ Mod F w (w8.setCell ⟨z, ix, none⟩ v8) := by
  have lY : Lat w (w6.alloc o) := lX.alloc o
  have hz : Blk (w6.alloc o) z ty cz := lY.blk blk
  have hne : ∀ g, v.ownBlock = some g → g ≠ z := cl.row.ne_blk blk t1
  have k8 : Blk w8 z ty cz := hz.gb hg8 fun e => hne z e.symm rfl
  have cl8 := Cl.snoc (k := k) cl lY.b (owned_less (ho6.alloc o) hB) hl hv8 hg8
  exact ⟨k8.set_ ix v8, cl8.setz k8 t1 t2 ix v8, field_mod (t := ty) (cs := #[]) cl.row inz lY hg8⟩
theorem tgF_out {w w' : World} {tag : Nat → Nat} {i k : Nat} {F' : Fp} (hk : w.heap.size ≤ k) (h : ¬F' k) : tgF w w' tag i F' k = 0 := by
  unfold tgF
  rw [if_neg (by omega), if_neg fun q => h q.1]
theorem Lat.setc {w W : World} {p : Addr} (hp : w.heap.size ≤ p.block) (h : Lat w W) (u : Value) : Lat w (W.setCell p u) := ⟨h.b.setCell hp u⟩
theorem Sb.inz {w : World} {F : Fp} {z dz wz rz sz : Nat} {p : Pg} {cs : List Cmt} (h : Sb w F z dz wz rz sz p cs) : F z ∧ z < w.heap.size := by
  obtain ⟨vL, ms, inz, blk, hms, cl⟩ := h
  exact ⟨inz, blk.lt⟩
set_option maxHeartbeats 4000000 in
set_option maxRecDepth 100000 in
theorem stadd137 {w : World} {tag : Nat → Nat} {t dz wz rz sz z n : Nat} {p : Pg} {fs : Nat → Bs} {cs : List Cmt} {es : List Nat} (hT : Tidy w tag) (h : SM w tag t dz wz rz sz z n p (At fs) cs cs es)
    {G : Fp} {A : Option Addr} {c : Nat} {ep num : Int} {Ao : Option Addr} {k co : Nat} {os : List Op3} (hrow : RdF w G 3 A 1 [.int .i64 ep, .int .i64 num, .slice Ao k co]) (ho : Ro w G Ao k co (opc os)) (hl : os.length = k) (hc1 : 1 ≤ c) (hcm : c ≤ maxLen)
    (hG : ∀ b, G b → ¬Prt t (tag b)) (hck : (Cmt.mk ep num os).k = 0) (hnum : num - 1 = cs.length) (hep : lastEp cs ≤ ep) (hcs : cs.length ≤ 10000) (hes : es.length ≤ 10000) (hwl : wlen es ≤ 1000000) (hs : tot fs ≤ 1000000) (hlen : (encC ⟨ep, num, os⟩).length ≤ 100000) (hn : n ≤ 1000000)
    (hph : p.ph = 0) (hro : p.ro ≠ 3) (hpe : ep ≤ p.ep) (hpa : p.ac ≤ cs.length) :
    Calls Tryz.prog 137 #[P z, .slice A 1 c] w fun e w' => e = .returned (.int .i64 0) ∧ ∃ tag', Turn (Prt t) w tag w' tag' ∧
      SM w' tag' t dz wz rz sz z (n + k) p (At (upd fs 0 (fs 0 ++ Vi.fr (encC ⟨ep, num, os⟩)))) (cs ++ [⟨ep, num, os⟩]) (cs ++ [⟨ep, num, os⟩]) (es ++ [wlen es + (Vi.fr (encC ⟨ep, num, os⟩)).length]) := by
  obtain ⟨hok, hk8, he1, he2, hn1, hn2⟩ := Cmt.oks hck
  simp only at hok hk8 he1 he2 hn1 hn2
  subst hl
  have hkc := ho.cap
  unfold maxLen at hkc hcm
  have hon : Calls Tryz.prog 118 #[P dz] w (Asked true w) := on118 h.dk
  have hw := stwrong124 h.sb hon
  obtain ⟨ba, oa, rfl, hba, hca⟩ := hrow.2 (by simp)
  have r0 : w.cell? ⟨ba, oa, none⟩ = some (.int .i64 ep) := hca 0 _ rfl
  have r1 : w.cell? ⟨ba, oa + 1, none⟩ = some (.int .i64 num) := hca 1 _ rfl
  have r2 : w.cell? ⟨ba, oa + 1 + 1, none⟩ = some (.slice Ao os.length co) := hca 2 _ rfl
  have H := hid h
  have HO := hid ho
  have HROW := hid hrow
  have hbk : ∃ vL ms, Blk w z 205 (stc dz p vL wz rz sz) ∧ ms.map Cm.p = cs ∧ Cl w (Ow tag (t + 5)) vL ms := by
    obtain ⟨vL, ms, inz, blk, hms, cl⟩ := h.sb
    exact ⟨vL, ms, blk, hms, cl⟩
  obtain ⟨vL, ms, blk, hms, cl⟩ := hbk
  obtain ⟨Ar, cr, rfl, _, _⟩ := cl.row.slice_
  have hml : ms.length = cs.length := by rw [← hms]; simp
  have hLA : ∀ X, Lat w X → Calls Tryz.prog 127 #[P z] X fun e w' => e = .returned (.int .i64 (lastEp cs)) ∧ ∃ d, w' = X.drewN d := fun X l => stlast127 (H.out.sb.mv (bmv l.b _))
  have hFO : ∀ X, Lat w X → Calls Tryz.prog 112 #[.int .i64 (lastEp cs), .int .i64 (ms.length : Nat), .slice (some ⟨ba, oa, none⟩) 1 c] X (Folds (0, 0) X) := fun X l => by
    have := follows37 (some ⟨ba, oa, none⟩) 1 c [⟨ep, num, Ao, os.length, co, os⟩] (lastEp cs) ms.length X ⟨(HROW.out.mv (bmv l.b G)).rd (by decide), rfl, fun m hm => by
      obtain rfl := List.mem_singleton.1 hm
      exact ⟨⟨(HO.out.later l.b).rdf.rd (by decide), rfl⟩, by show os.length ≤ _; omega⟩⟩ (by omega)
    rwa [fol_one (x := ⟨ep, num, Ao, os.length, co, os⟩) hck, if_neg (by simp only; omega)] at this
  have hCE : ∀ X, Lat w X → X.cell? ⟨z, 8, none⟩ = some (.slice Ar ms.length cr) := fun X l => (l.blk blk).cell 8
  obtain ⟨c0, c1, c2, c3, c4, c5, c6, c7, c8, c9, c10, c11, c12⟩ := stcells blk
  have HN1 : Hid (∀ d, Blk ((w.drewN d).alloc (.cells #[.int .i64 0, .int .i64 0] 190)) w.heap.size 190 #[.int .i64 0, .int .i64 0]) := hid fun d => Blk.new (w.drewN d) 190 _
  have HN2 : Hid (∀ d, Blk ((w.alloc (.cells #[.int .i64 0, .int .i64 0] 190)).drewN d) w.heap.size 190 #[.int .i64 0, .int .i64 0]) := hid fun d => Blk.new w 190 _
  have HLA := hid hLA
  have HFO := hid hFO
  have HCE := hid hCE
  have HMS := hid hms
  have HNUM := hid hnum
  have HML := hid hml
  have HB := hid blk
  have HCK := hid hck
  clear hLA hFO hCE h ho hrow hms blk cl hnum hck hca hon hml
  go_enter Tryz.func137, Tryz.ntmps137
  go_wp2_with (go_at_call 124; (with_reducible refine hw.mono ?_); rintro e' w1 ⟨rfl, rfl⟩)
  refine' merge1 (fun (Y : World) X => Lat w X ∧ Blk X Y.heap.size 190 #[.int .i64 0, .int .i64 0] ∧ w.heap.size ≤ Y.heap.size) ?h1 (fun Y w4 h4 => ?h2)
  case h1 =>
    go_region_held3 (fun X => X.cell? ⟨z, 8, none⟩ = some (.slice Ar ms.length cr))
      ((refine HCE.out _ ?_; repeat (first | exact Lat.refl _ | assumption | refine Lat.drew ?_ | refine Lat.drewN ?_ _ | refine Lat.alloc ?_ _ | refine Lat.setc (Nat.le_refl _) ?_ _ | refine Lat.setc (Lat.size (by assumption)) ?_ _)))
      (first
      | (go_at_call 127; (with_reducible refine (HLA.out _ (by repeat (first | exact Lat.refl _ | refine Lat.drew ?_ | refine Lat.drewN ?_ _ | refine Lat.alloc ?_ _))).mono ?_); rintro e2 w2 ⟨rfl, d2, rfl⟩)
      | (go_at_call 112; (with_reducible refine (HFO.out _ (by repeat (first | exact Lat.refl _ | refine Lat.drew ?_ | refine Lat.drewN ?_ _ | refine Lat.alloc ?_ _))).mono ?_); rintro e4 w4 ⟨rfl, hb4⟩; have l4 : Lat w w4 := Lat.below (by repeat (first | exact Lat.refl _ | refine Lat.drew ?_ | refine Lat.drewN ?_ _ | refine Lat.alloc ?_ _)) hb4; (try (have kbx : Blk w4 w.heap.size 190 #[.int .i64 0, .int .i64 0] := Blk.later (by first | (with_reducible exact HN1.out _) | (with_reducible exact HN2.out _)) hb4; have k60 : w4.cell? ⟨w.heap.size, 0, none⟩ = some (.int .i64 0) := kbx.cell 0; have k61 : w4.cell? ⟨w.heap.size, 1, none⟩ = some (.int .i64 0) := kbx.cell 1; have f60 : w4.frozen? ⟨w.heap.size, 0, none⟩ = false := kbx.frozen 0; have f61 : w4.frozen? ⟨w.heap.size, 1, none⟩ = false := kbx.frozen 1))))
    all_goals first
      | exact ⟨w4, rfl, l4.alloc _, Blk.new _ _ _, l4.size⟩
      | exact ⟨w, rfl, Lat.setc (Nat.le_refl _) (Lat.setc (Nat.le_refl _) l4 _) _, (kbx.set_ 0 _).set_ 1 _, Nat.le_refl _⟩
  obtain ⟨l4, k4, hY⟩ := h4
  have g0 : w4.cell? ⟨Y.heap.size, 0, none⟩ = some (.int .i64 0) := k4.cell 0
  have hb4 := l4.blk HB.out
  have HL4 := hid l4
  have r04 : w4.cell? ⟨ba, oa, none⟩ = some (.int .i64 ep) := by have h := (HROW.out.mv (bmv l4.b G)).2 (by simp); obtain ⟨b1, o1, e1, _, hc⟩ := h; cases e1; exact hc 0 _ rfl
  have r14 : w4.cell? ⟨ba, oa + 1, none⟩ = some (.int .i64 num) := by have h := (HROW.out.mv (bmv l4.b G)).2 (by simp); obtain ⟨b1, o1, e1, _, hc⟩ := h; cases e1; exact hc 1 _ rfl
  have r24 : w4.cell? ⟨ba, oa + 1 + 1, none⟩ = some (.slice Ao os.length co) := by have h := (HROW.out.mv (bmv l4.b G)).2 (by simp); obtain ⟨b1, o1, e1, _, hc⟩ := h; cases e1; exact hc 2 _ rfl
  clear c0 c1 c2 c3 c4 c5 c6 c7 c8 c9 c10 c11 c12 r0 r1 r2
  obtain ⟨c0, c1, c2, c3, c4, c5, c6, c7, c8, c9, c10, c11, c12⟩ := stcells hb4
  obtain ⟨p1, p2, p3, p4, p5, p6⟩ := p
  simp only at hph hro hpe hpa
  subst hph
  go_wp2_with fail
  have hw1 : IntKind.i64.wrap ((ms.length : Int) + 1) = (ms.length : Int) + 1 := IntWalk.i64_in _ (by have := HML.out; omega)
  have hw0 : IntKind.i64.wrap ((1 : Int) - 1) = 0 := rfl
  have hw00 : IntKind.i64.wrap (0 : Int) = 0 := rfl
  have h128 : ∀ X, Lat w4 X → Calls Tryz.prog 128 #[P rz] X (Num0 0 X) := fun X l => rend128 (H.out.r0.mv (bmv (HL4.out.trans l).b _))
  have h126 : ∀ X, Calls Tryz.prog 126 #[P z, .agg #[.int .i64 p1, .int .u8 p2, .int .i64 p3, .int .u8 0, .int .i64 p5, .int .i64 p6], .int .i64 ((ms.length : Int) + 1), .int .i64 ep, .int .i64 0] X fun e w' => e = .returned (.bool true) ∧ Below X.heap.size X w' := fun X => stsound126 z ⟨p1, p2, p3, 0, p5, p6⟩ _ ep X rfl hro (by omega) hpe (by have := HML.out; show p3 ≤ _; omega)
  have hCE9 : ∀ X, Lat w4 X → X.cell? ⟨z, 2, none⟩ = some (.int .i64 p1) ∧ X.cell? ⟨z, 3, none⟩ = some (.int .u8 p2) ∧ X.cell? ⟨z, 4, none⟩ = some (.int .i64 p3) ∧ X.cell? ⟨z, 5, none⟩ = some (.int .u8 0) ∧ X.cell? ⟨z, 6, none⟩ = some (.int .i64 p5) ∧ X.cell? ⟨z, 7, none⟩ = some (.int .i64 p6) ∧ X.cell? ⟨z, 8, none⟩ = some (.slice Ar ms.length cr) ∧ X.cell? ⟨z, 10, none⟩ = some (P rz) ∧ X.cell? ⟨ba, oa, none⟩ = some (.int .i64 ep) := fun X l => by
    obtain ⟨_, _, e2, e3, e4, e5, e6, e7, e8, _, e10, _⟩ := stcells (l.blk hb4)
    refine ⟨e2, e3, e4, e5, e6, e7, e8, e10, ?_⟩
    have h := (HROW.out.mv (bmv (HL4.out.trans l).b G)).2 (by simp); obtain ⟨b1, o1, e1, _, hc⟩ := h; cases e1; exact hc 0 _ rfl
  have HCE9 := hid hCE9
  have H128 := hid h128
  have H126 := hid h126
  have HB4 := hid hb4
  have HK4 := hid k4
  clear hCE9 h128 h126 hb4 k4 l4
  refine' merge0 (fun X => Lat w4 X) ?i1 (fun w6 l6 => ?i2)
  case i1 =>
    go_region_held3 (fun X => X.cell? ⟨z, 2, none⟩ = some (.int .i64 p1) ∧ X.cell? ⟨z, 3, none⟩ = some (.int .u8 p2) ∧ X.cell? ⟨z, 4, none⟩ = some (.int .i64 p3) ∧ X.cell? ⟨z, 5, none⟩ = some (.int .u8 0) ∧ X.cell? ⟨z, 6, none⟩ = some (.int .i64 p5) ∧ X.cell? ⟨z, 7, none⟩ = some (.int .i64 p6) ∧ X.cell? ⟨z, 8, none⟩ = some (.slice Ar ms.length cr) ∧ X.cell? ⟨z, 10, none⟩ = some (P rz) ∧ X.cell? ⟨ba, oa, none⟩ = some (.int .i64 ep))
      ((refine HCE9.out _ ?_; repeat (first | exact Lat.refl _ | assumption | refine Lat.drew ?_ | refine Lat.drewN ?_ _ | refine Lat.alloc ?_ _)))
      (first
      | (go_at_call 128; (with_reducible refine (H128.out _ (by repeat (first | exact Lat.refl _ | refine Lat.drew ?_ | refine Lat.drewN ?_ _ | refine Lat.alloc ?_ _))).mono ?_); rintro e2 w2 ⟨rfl, rfl⟩)
      | (go_at_call 126; (with_reducible refine (H126.out _).mono ?_); rintro e4 w6 ⟨rfl, hb6⟩; have l6 : Lat w4 w6 := Lat.below (by repeat (first | exact Lat.refl _ | refine Lat.drew ?_ | refine Lat.drewN ?_ _ | refine Lat.alloc ?_ _)) hb6))
    all_goals exact ⟨rfl, l6⟩
  go_wp2_with fail
  have hl6 : Lat w w6 := HL4.out.trans l6
  have HL6 := hid hl6
  have hAP : ∀ X, Lat w X → Calls Tryz.prog 172 #[P wz, cmv ep num Ao os.length co] X (WDid (t + 1) (t + 2) dz wz (Wt fs 0 (Vi.fr (encC ⟨ep, num, os⟩))) ⟨false, cs ++ [⟨ep, num, os⟩], es ++ [wlen es + (Vi.fr (encC ⟨ep, num, os⟩)).length]⟩ tag X) := fun X l =>
    wappend172 (hT.below l.size) (by omega) (by omega) (by omega) (H.out.dk.mv (bmv l.b _)) (H.out.wl.mv (bmv l.b _)) (HO.out.later l.b) rfl (fun b hb => ⟨fun h => hG b hb (by rw [h]; unfold Prt; omega), fun h => hG b hb (by rw [h]; unfold Prt; omega)⟩) HCK.out HNUM.out hep (by omega) (by omega) hwl hs hlen
  have HAP := hid hAP
  have htz : tag z = t + 5 := H.out.sb.inz.1
  have hzw : z < w.heap.size := H.out.sb.inz.2
  clear hAP l6 hl6 c0 c1 c2 c3 c4 c5 c6 c7 c8 c9 c10 c11 c12 r04 r14 r24 g0 hw
  obtain ⟨cx, hcx⟩ : ∃ cx : Cmt, cx = ⟨ep, num, os⟩ := ⟨_, rfl⟩
  obtain ⟨es', hes'⟩ : ∃ es', es' = es ++ [wlen es + (Vi.fr (encC cx)).length] := ⟨_, rfl⟩
  rw [← hcx] at HAP
  rw [← hes'] at HAP
  have HCX := hid hcx
  have HES := hid hes'
  clear hcx hes'
  go_loopg [64] 1 (fun g i wr => (g = 1 ∧ i = .int .i64 0 ∧ wr = w6) ∨ (g = 0 ∧ i = .int .i64 1 ∧ Hid (∃ tag1, Turn (Prt t) w tag wr tag1 ∧ SM wr tag1 t dz wz rz sz z n ⟨p1, p2, p3, 0, p5, p6⟩ (Wt fs 0 (Vi.fr (encC cx))) (cs ++ [cx]) cs es')))
  case atStart => exact .inl ⟨rfl, rfl, rfl⟩
  case round =>
    rcases hrel with ⟨rfl, rfl, rfl⟩ | ⟨rfl, rfl, h9⟩
    · obtain ⟨x0, x1, x2⟩ : wr.cell? ⟨ba, oa, none⟩ = some (.int .i64 ep) ∧ wr.cell? ⟨ba, oa + 1, none⟩ = some (.int .i64 num) ∧ wr.cell? ⟨ba, oa + 1 + 1, none⟩ = some (.slice Ao os.length co) := by
        have h := (HROW.out.mv (bmv HL6.out.b G)).2 (by simp); obtain ⟨b1, o1, e1, _, hc⟩ := h; cases e1; exact ⟨hc 0 _ rfl, hc 1 _ rfl, hc 2 _ rfl⟩
      obtain ⟨W7, hW7⟩ : ∃ W7, W7 = wr.alloc (.cells (cmcs ep num Ao os.length co) 88) := ⟨_, rfl⟩
      have kW7 : Blk W7 wr.heap.size 88 (cmcs ep num Ao os.length co) := by rw [hW7]; exact Blk.new _ _ _
      have lW7 : Lat w W7 := by rw [hW7]; exact HL6.out.alloc _
      have bW7 : Blk W7 z 205 (stc dz ⟨p1, p2, p3, 0, p5, p6⟩ (.slice Ar ms.length cr) wz rz sz) := lW7.blk HB.out
      have HLW7 := hid lW7
      have HKW7 := hid kW7
      have HBW7 := hid bW7
      have S0 : Hid (W7.cell? ⟨z, 9, none⟩ = some (P wz) ∧ W7.cell? ⟨wr.heap.size, 0, none⟩ = some (.int .i64 ep) ∧ W7.cell? ⟨wr.heap.size, 1, none⟩ = some (.int .i64 num) ∧ W7.cell? ⟨wr.heap.size, 2, none⟩ = some (.slice Ao os.length co)) := hid ⟨bW7.cell 9, kW7.cell 0, kW7.cell 1, kW7.cell 2⟩
      have hbx : tag wr.heap.size = 0 := hT _ HL6.out.size
      have hnz : wr.heap.size ≠ z := by have := HL6.out.size; omega
      clear kW7 lW7 bW7
      go_wp2_with fail
      rw [← hW7]
      clear hW7
      refine' merge0 (fun X => ∃ tag1, Turn (Prt t) w tag X tag1 ∧ SM X tag1 t dz wz rz sz z n ⟨p1, p2, p3, 0, p5, p6⟩ (Wt fs 0 (Vi.fr (encC cx))) (cs ++ [cx]) cs es') ?j1 (fun w9 h9 => ?j2)
      case j1 =>
        go_region_held3 (fun X => X.cell? ⟨z, 9, none⟩ = some (P wz) ∧ X.cell? ⟨wr.heap.size, 0, none⟩ = some (.int .i64 ep) ∧ X.cell? ⟨wr.heap.size, 1, none⟩ = some (.int .i64 num) ∧ X.cell? ⟨wr.heap.size, 2, none⟩ = some (.slice Ao os.length co))
          (first | exact S0.out | exact S8.out | exact S9.out)
          (first
          | (go_at_call 172; (with_reducible refine (HAP.out _ (Lat.drew HLW7.out)).mono ?_); rintro e8 w8 ⟨rfl, tag8, ht8, hd8, hx8⟩; have b8 := ht8.blk (w := W7.drew) HBW7.out (by rw [htz]; omega); have k8 := ht8.blk (w := W7.drew) HKW7.out (by rw [hbx]; omega); have S8 : Hid (w8.cell? ⟨z, 9, none⟩ = some (P wz) ∧ w8.cell? ⟨wr.heap.size, 0, none⟩ = some (.int .i64 ep) ∧ w8.cell? ⟨wr.heap.size, 1, none⟩ = some (.int .i64 num) ∧ w8.cell? ⟨wr.heap.size, 2, none⟩ = some (.slice Ao os.length co)) := hid ⟨b8.cell 9, k8.cell 0, k8.cell 1, k8.cell 2⟩)
          | (go_at_call 130; (with_reducible refine (sttried130 b8).mono ?_); rintro e9 w9 ⟨rfl, rfl⟩; have S9 : Hid ((w8.setCell ⟨z, 1, none⟩ (.bool false)).cell? ⟨z, 9, none⟩ = some (P wz) ∧ (w8.setCell ⟨z, 1, none⟩ (.bool false)).cell? ⟨wr.heap.size, 0, none⟩ = some (.int .i64 ep) ∧ (w8.setCell ⟨z, 1, none⟩ (.bool false)).cell? ⟨wr.heap.size, 1, none⟩ = some (.int .i64 num) ∧ (w8.setCell ⟨z, 1, none⟩ (.bool false)).cell? ⟨wr.heap.size, 2, none⟩ = some (.slice Ao os.length co)) := hid ⟨(b8.set_ 1 (.bool false)).cell 9, (k8.far (p := ⟨z, 1, none⟩) hnz (.bool false)).cell 0, (k8.far (p := ⟨z, 1, none⟩) hnz (.bool false)).cell 1, (k8.far (p := ⟨z, 1, none⟩) hnz (.bool false)).cell 2⟩))
        all_goals
          have hsm := (H.out.later HLW7.out.drew).disk ht8 hd8 hx8
          obtain ⟨hq1, hq2⟩ := hsm.tried ht8.td
          exact ⟨rfl, tag8, ((HLW7.out.drew.turn hT (Prt t)).trans (ht8.more fun i hi => by unfold Prt; omega)).trans hq1, hq2⟩
      have H9 := hid h9
      clear h9
      go_wp2_with fail
      go_roundg 0
      case measure => omega
      case rel => exact .inr ⟨rfl, by go_num, H9⟩
    · obtain ⟨tag1, ht1, h1⟩ := h9.out
      have hsy := wsync173 (f := 0) ht1.td (by omega) (by omega) (by decide) h1.dk h1.wl (by have := fr_len (encC cx); rw [HCX.out] at this ⊢; omega)
      have hb1 : ∃ vL, Blk wr z 205 (stc dz ⟨p1, p2, p3, 0, p5, p6⟩ vL wz rz sz) := by
        obtain ⟨vL, ms, inz, blk, hms, cl⟩ := h1.sb
        exact ⟨vL, blk⟩
      obtain ⟨vL1, b1⟩ := hb1
      have htz1 : tag1 z = t + 5 := h1.sb.inz.1
      obtain ⟨c0, c1, c2, c3, c4, c5, c6, c7, c8, c9, c10, c11, c12⟩ := stcells b1
      have HB1 := hid b1
      have HT1 := hid ht1
      have H1 := hid h1
      clear b1 ht1 h1 h9
      go_wp2_with (go_at_call 173; refine stop_ (fun Ps hPs => ?_))
      refine hPs ?_
      clear hPs Ps c0 c1 c2 c3 c4 c5 c6 c7 c8 c9 c10 c11 c12
      refine hsy.mono ?_
      rintro e' w2 ⟨rfl, tag2, ht2, hd2, hx2⟩
      have b2 := ht2.blk HB1.out (by rw [htz1]; omega)
      have htd2 := ht2.td
      obtain ⟨hq1, hq2⟩ := ((H1.out.disk ht2 hd2 hx2).tried htd2)
      have HT2 := hid ((HT1.out.trans (ht2.more fun i hi => by unfold Prt; omega)).trans hq1)
      have H2 := hid hq2
      clear ht2 hd2 hx2 hq1 hq2 hsy htd2
      go_wp2_with (go_at_call 130; (with_reducible refine (sttried130 b2).mono ?_); rintro e9 w9 ⟨rfl, rfl⟩)
      obtain ⟨W2, hW2⟩ : ∃ W2, W2 = w2.setCell ⟨z, 1, none⟩ (.bool false) := ⟨_, rfl⟩
      rw [← hW2] at HT2 H2 ⊢
      clear hW2 b2 HT1 H1 HB1
      go_loopg [92] 1 (fun g i wr => (g = 1 ∧ i = .int .i64 0 ∧ wr = W2) ∨ (g = 0 ∧ i = .int .i64 1 ∧ Hid (∃ tag1, Turn (Prt t) w tag wr tag1 ∧ SM wr tag1 t dz wz rz sz z (n + os.length) ⟨p1, p2, p3, 0, p5, p6⟩ (At (upd fs 0 (fs 0 ++ Vi.fr (encC cx)))) (cs ++ [cx]) (cs ++ [cx]) es')))
      case atStart => exact .inl ⟨rfl, rfl, rfl⟩
      case round =>
        rcases hrel with ⟨rfl, rfl, rfl⟩ | ⟨rfl, rfl, h9⟩
        · have hmG : Mv w wr G (fun b => G b ∧ b < w.heap.size) := fun b hb hg => ⟨⟨hg, hb⟩, HT2.out.keep hb (hG b hg)⟩
          obtain ⟨x0, x1, x2⟩ : wr.cell? ⟨ba, oa, none⟩ = some (.int .i64 ep) ∧ wr.cell? ⟨ba, oa + 1, none⟩ = some (.int .i64 num) ∧ wr.cell? ⟨ba, oa + 1 + 1, none⟩ = some (.slice Ao os.length co) := by
            have h := (HROW.out.mv hmG).2 (by simp); obtain ⟨b1, o1, e1, _, hc⟩ := h; cases e1; exact ⟨hc 0 _ rfl, hc 1 _ rfl, hc 2 _ rfl⟩
          have hbk2 : ∃ vL ms, Blk wr z 205 (stc dz ⟨p1, p2, p3, 0, p5, p6⟩ vL wz rz sz) ∧ ms.map Cm.p = cs ∧ Cl wr (Ow tag2 (t + 5)) vL ms := by
            obtain ⟨vL, ms, inz, blk, hms, cl⟩ := H2.out.sb
            exact ⟨vL, ms, blk, hms, cl⟩
          obtain ⟨vL2, ms2, blk2, hms2, cl2⟩ := hbk2
          obtain ⟨A2, c2, rfl, _, _⟩ := cl2.row.slice_
          have hml2 : ms2.length ≤ 10000 := by have : ms2.length = cs.length := by rw [← hms2]; simp
                                               omega
          have htz2 : tag2 z = t + 5 := H2.out.sb.inz.1
          have hwz : wr.heap.size ≠ z := by have := H2.out.sb.inz.2; omega
          obtain ⟨W7, hW7⟩ : ∃ W7, W7 = wr.alloc (.cells (cmcs ep num Ao os.length co) 88) := ⟨_, rfl⟩
          have lW7 : Lat wr W7 := by rw [hW7]; exact (Lat.refl wr).alloc _
          have kW7 : Blk W7 wr.heap.size 88 (cmcs ep num Ao os.length co) := by rw [hW7]; exact Blk.new _ _ _
          have bW7 := lW7.blk blk2
          have cW7 := cl2.later lW7.b
          have hnez : ∀ g, (Value.slice A2 ms2.length c2).ownBlock = some g → g ≠ z := cl2.row.ne_blk blk2 (by decide)
          have hlt2 : ∀ g, (Value.slice A2 ms2.length c2).ownBlock = some g → g < wr.heap.size := fun g hg => (cl2.row.lt g hg).2
          have hrow : Sl W7 (Ow tag2 (t + 5)) 88 3 (.slice A2 ms2.length c2) ms2.length (cmc ms2) := cW7.row
          have HCP := hid (copy91 (w := W7.drew) (ep := ep) (num := num) (c := co) (os := os) (A := Ao) (k := os.length) ⟨((HO.out.mv hmG).later lW7.b).rdf.rd (by decide), rfl⟩ (by omega) hkc.1)
          have b0 : W7.cell? ⟨wr.heap.size, 0, none⟩ = some (.int .i64 ep) := kW7.cell 0
          have b1 : W7.cell? ⟨wr.heap.size, 1, none⟩ = some (.int .i64 num) := kW7.cell 1
          have b2 : W7.cell? ⟨wr.heap.size, 2, none⟩ = some (.slice Ao os.length co) := kW7.cell 2
          have z8 : W7.cell? ⟨z, 8, none⟩ = some (.slice A2 ms2.length c2) := bW7.cell 8
          have HBL := hid bW7
          have HKW := hid kW7
          have HC7 := hid cW7
          have HL7 := hid lW7
          have HM2 := hid hms2
          have HMG := hid hmG
          clear bW7 kW7 cW7 lW7 hms2 hmG cl2 blk2
          go_wp2_with fail
          rw [← hW7]
          clear hW7
          refine' merge5 (fun (X : World) A7 c7 A8 c8 Y => Blk Y z 205 (stc dz ⟨p1, p2, p3, 0, p5, p6⟩ (.slice A8 (ms2.length + 1) c8) wz rz sz) ∧ Cl Y (fun b => Ow tag2 (t + 5) b ∨ W7.heap.size ≤ b) (.slice A8 (ms2.length + 1) c8) (ms2 ++ [⟨ep, num, A7, os.length, c7, os⟩]) ∧ Mod (Ow tag2 (t + 5)) W7 Y ∧ Blk Y wr.heap.size 88 (cmcs ep num Ao os.length co)) ?g1 (fun X A7 c7 A8 c8 W9 h9 => ?g2)
          case g1 =>
            go_region_law
              (first
              | (go_simp; go_at_call 91; (with_reducible refine HCP.out.mono ?_); rintro e7 w7 ⟨A7, c7, rfl, ho7, hb7⟩; have z27 : w7.cell? ⟨z, 8, none⟩ = some (.slice A2 ms2.length c2) := ((HBL.out.later (w' := W7.drew) (below_drew W7)).later hb7).cell 8; have z27a : (w7.alloc (.cells (cmcs ep num A7 os.length c7) 88)).cell? ⟨z, 8, none⟩ = some (.slice A2 ms2.length c2) := (((HBL.out.later (w' := W7.drew) (below_drew W7)).later hb7).alloc _).cell 8; have hsl7 : Sl w7 (Ow tag2 (t + 5)) 88 3 (.slice A2 ms2.length c2) ms2.length (cmc ms2) := (hrow.later (below_drew W7)).later hb7)
              | (refine step_appS (c := 1) T46 (.tmp 100) (.tmp 103) rfl (by rfl) (hsl7.alloc _) (by go_simp) (RdF.lit w7 (cmcs ep num A7 os.length c7) 88 1 3 rfl) (by go_simp) (by simp [Value.oneCell']) (by omega) ?_; intro v8 w8 hv8 hg8 hat8; obtain ⟨A8, c8, rfl, _, _⟩ := hv8.slice_; have k8 : Blk w8 z 205 (stc dz ⟨p1, p2, p3, 0, p5, p6⟩ (.slice A2 ms2.length c2) wz rz sz) := ((((HBL.out.later (w' := W7.drew) (below_drew W7)).later hb7).alloc _).gb hg8 fun e => hnez z e.symm rfl); have z28 : w8.cell? ⟨z, 8, none⟩ = some (.slice A2 ms2.length c2) := k8.cell 8; have f28 : w8.frozen? ⟨z, 8, none⟩ = false := k8.frozen 8))
            all_goals
              have hmid := obj_mid (F := Ow tag2 (t + 5)) (ty := 205) (cz := stc dz ⟨p1, p2, p3, 0, p5, p6⟩ (.slice A2 ms2.length c2) wz rz sz) (ix := 8) (o := .cells (cmcs ep num A7 os.length c7) 88) htz2 HBL.out (by decide) (by decide) HC7.out ((Lat.refl W7).drew.below hb7) (Nat.le_refl _) ho7 rfl hv8 hg8
              have kb9 := ((((HKW.out.later (w' := W7.drew) (below_drew W7)).later hb7).alloc (.cells (cmcs ep num A7 os.length c7) 88)).gb hg8 fun e => (Nat.ne_of_lt (hlt2 _ e.symm)) rfl).far (p := ⟨z, 8, none⟩) hwz (.slice A8 (ms2.length + 1) c8)
              exact ⟨w7, A7, c7, A8, c8, rfl, hmid.1, hmid.2.1, hmid.2.2, kb9⟩
          case g2 =>
            obtain ⟨k9, c9, m9, kb9⟩ := h9
            obtain ⟨tag3, ht3, sb3, hb3⟩ : ∃ tag3, Turn (fun i => i = t + 5) wr tag2 W9 tag3 ∧ Sb W9 (Ow tag3 (t + 5)) z dz wz rz sz ⟨p1, p2, p3, 0, p5, p6⟩ (cs ++ [cx]) ∧ tag3 wr.heap.size = 0 := by
              have hsub : Sub wr (Ow tag2 (t + 5)) (fun b => Ow tag2 (t + 5) b ∨ W7.heap.size ≤ b) := fun b hb => hb.imp id fun h => Nat.le_trans HL7.out.size h
              have hsb : Sb W9 (fun b => Ow tag2 (t + 5) b ∨ W7.heap.size ≤ b) z dz wz rz sz ⟨p1, p2, p3, 0, p5, p6⟩ (cs ++ [cx]) := ⟨_, _, .inl htz2, k9, by simp [HM2.out, HCX.out, Cm.p], c9⟩
              exact ⟨_, turn_of (I := fun i => i = t + 5) HT2.out.td ((HL7.out.mod _).trans_ m9) hsub rfl, hsb.mv (tgF_mv hsub), tgF_out (Nat.le_refl _) fun h => by
                rcases h with h | h
                · have h0 := HT2.out.td wr.heap.size (Nat.le_refl _)
                  have h1 : tag2 wr.heap.size = t + 5 := h
                  omega
                · have := HKW.out.lt
                  omega⟩
            obtain ⟨dk3, wl3, r03, sr3⟩ := H2.out.own ht3 sb3
            have hws : w.heap.size ≤ wr.heap.size := HT2.out.size
            have htg : ∀ b, b < w.heap.size → tag3 b = tag b := fun b hb => by rw [ht3.old b (by omega), HT2.out.old b hb]
            have ho9 : Ro W9 (fun b => G b ∧ b < w.heap.size) Ao os.length co (opc os) := (HO.out.mv HMG.out).mv fun b hb hg => ⟨hg, ht3.keep hb (by rw [HT2.out.old b hg.2]; intro h; exact hG b hg.1 (by rw [h]; unfold Prt; omega))⟩
            have hAP2 : Calls Tryz.prog 174 #[P sz, cmv ep num Ao os.length co] W9.drew (SDid (Ow tag3 (t + 4)) sz rz (n + os.length) (cs ++ [⟨ep, num, os⟩]) W9.drew) :=
              sapply174 (sr3.mv (bmv (below_drew W9) _)) (r03.mv (bmv (below_drew W9) _)) (ho9.later (below_drew W9)) rfl (fun b hb h4 => hG b hb.1 (by rw [← htg b hb.2, show tag3 b = t + 4 from h4]; unfold Prt; omega)) HCK.out HNUM.out hep hn (by omega)
            have htz3 : tag3 z = t + 5 := sb3.inz.1
            obtain ⟨y0, y1, y2, y3, y4, y5, y6, y7, y8, y9, y10, y11, y12⟩ := stcells k9
            have S0 : Hid (W9.cell? ⟨z, 11, none⟩ = some (P sz) ∧ W9.cell? ⟨wr.heap.size, 0, none⟩ = some (.int .i64 ep) ∧ W9.cell? ⟨wr.heap.size, 1, none⟩ = some (.int .i64 num) ∧ W9.cell? ⟨wr.heap.size, 2, none⟩ = some (.slice Ao os.length co)) := hid ⟨y11, kb9.cell 0, kb9.cell 1, kb9.cell 2⟩
            have HAP2 := hid hAP2
            have HT3 := hid ht3
            have HK9 := hid k9
            have HKB9 := hid kb9
            have H3 := hid (And.intro dk3 (And.intro wl3 (And.intro r03 sb3)))
            clear hAP2 ht3 k9 kb9 dk3 wl3 r03 sr3 sb3 c9 m9 ho9 htg z8 b0 b1 b2 hrow
            go_wp2_with fail
            refine' merge0 (fun X => ∃ tag1, Turn (Prt t) w tag X tag1 ∧ SM X tag1 t dz wz rz sz z (n + os.length) ⟨p1, p2, p3, 0, p5, p6⟩ (At (upd fs 0 (fs 0 ++ Vi.fr (encC cx)))) (cs ++ [cx]) (cs ++ [cx]) es') ?k1 (fun w12 h12 => ?k2)
            case k1 =>
              go_region_held3 (fun X => X.cell? ⟨z, 11, none⟩ = some (P sz) ∧ X.cell? ⟨wr.heap.size, 0, none⟩ = some (.int .i64 ep) ∧ X.cell? ⟨wr.heap.size, 1, none⟩ = some (.int .i64 num) ∧ X.cell? ⟨wr.heap.size, 2, none⟩ = some (.slice Ao os.length co))
                (first | exact S0.out | exact S8.out)
                ((go_at_call 174; (with_reducible refine HAP2.out.mono ?_); rintro e10 w10 ⟨rfl, F10, sr10, hm10, hs10⟩; have ht10 := turn_of (w := W9.drew) (I := fun i => i = t + 4) HT3.out.td hm10 hs10 rfl; have b10 := ht10.blk (w := W9.drew) HK9.out (by rw [htz3]; omega); have k10 := ht10.blk (w := W9.drew) HKB9.out (by rw [hb3]; omega); have S8 : Hid (w10.cell? ⟨z, 11, none⟩ = some (P sz) ∧ w10.cell? ⟨wr.heap.size, 0, none⟩ = some (.int .i64 ep) ∧ w10.cell? ⟨wr.heap.size, 1, none⟩ = some (.int .i64 num) ∧ w10.cell? ⟨wr.heap.size, 2, none⟩ = some (.slice Ao os.length co)) := hid ⟨b10.cell 11, k10.cell 0, k10.cell 1, k10.cell 2⟩))
              all_goals
                obtain ⟨dk3, wl3, r03, sb3⟩ := H3.out
                have lD : Lat W9 W9.drew := (Lat.refl W9).drew
                have hs4 := sr10.mv (tgF_mv hs10)
                rw [← HCX.out] at hs4
                refine ⟨rfl, _, ((HT2.out.trans (HT3.out.more fun i hi => by subst hi; unfold Prt; omega)).trans (lD.turn HT3.out.td (Prt t))).trans (ht10.more fun i hi => by subst hi; unfold Prt; omega), ?_⟩
                exact ⟨(dk3.mv (bmv lD.b _)).mv (ht10.mv (by omega)), (wl3.mv (bmv lD.b _)).mv (ht10.mv (by omega)), (r03.mv (bmv lD.b _)).mv (ht10.mv (by omega)), hs4, (sb3.mv (bmv lD.b _)).mv (ht10.mv (by omega))⟩
            have H12 := hid h12
            clear h12
            go_wp2_with fail
            go_roundg 0
            case measure => omega
            case rel => exact .inr ⟨rfl, by go_num, H12⟩
        · obtain ⟨tag4, ht4, h4⟩ := h9.out
          have HT4 := hid ht4
          have H4 := hid h4
          clear ht4 h4 h9
          go_wp2_with fail
          go_ret
          have h4 := H4.out
          rw [HES.out, HCX.out] at h4
          exact ⟨rfl, tag4, HT4.out, h4⟩
end Go.Proofs.YtbpnbcjgkbpmgaaGreat
