/- A primary answers without waiting for the other site, as many times as its leash allows: of any acts. No condition. (part 26) -/
import Derived.Test.YtbpnbcjgkbpmgaaGreatMAe
import Derived.Test.YtbpnbcjgkbpmgaaGreatMAy
namespace Go.Proofs.YtbpnbcjgkbpmgaaGreat
open Go.RowKit Go.Lg Ds St
set_option linter.unusedVariables false
set_option linter.unusedSimpArgs false
structure PB (w : World) (B lo : Nat) (b : Bys) : Prop where
  bx : ∃ A c, Blk w B 80 #[.slice A b.length c] ∧ Sl w (fun k => lo ≤ k) 5 1 (.slice A b.length c) b.length (bts b)
theorem PB.later {w w' : World} {B lo : Nat} {b : Bys} (h : PB w B lo b) (l : Lat w w') : PB w' B lo b := by
  obtain ⟨A, c, h1, h2⟩ := h.bx
  exact ⟨A, c, l.blk h1, h2.later l.b⟩
theorem Fresh.sl {w w' : World} {l : Bys} {e : Ending} (h : Fresh w l e w') : ∃ A c, e = .returned (.slice A l.length c) ∧ Sl w' (fun k => w.heap.size ≤ k) 5 1 (.slice A l.length c) l.length (bts l) ∧ Below w.heap.size w w' := by
  obtain ⟨v, rfl, ho, hb⟩ := h
  have hs : Sl w' (fun k => w.heap.size ≤ k) 5 1 v l.length (bts l) := Sl.of_own ho fun g hg => (ho.lt g hg).1
  obtain ⟨A, c, rfl, _, _⟩ := hs.slice_
  exact ⟨A, c, rfl, hs, hb⟩
set_option maxHeartbeats 4000000 in
set_option maxRecDepth 100000 in
theorem lput175 {w : World} {B lo : Nat} {b : Bys} {G : Fp} {As : Option Addr} {l : List Nat} {cs : Nat} (h : PB w B lo b) (hlo : lo ≤ w.heap.size) (hBlo : B < lo) (hl : RdF w G 1 As l.length (ic l)) (hG : ¬G B) (hx : ∀ x ∈ l, x ≤ 9223372036854775807) (hb : b.length + l.length * 20 ≤ 140737488354000) :
    Calls Tryz.prog 175 #[.slice As l.length cs, P B] w fun e w' => (∃ v, e = .returned v) ∧ PB w' B lo (b ++ Pp.encN l) ∧ Mod (fun k => k = B) w w' := by
  obtain ⟨n, hn⟩ : ∃ n, n = l.length := ⟨_, rfl⟩
  have HL := hid hl
  have HN := hid hn
  have HX := hid hx
  rw [← hn] at hb
  have HB := hid hb
  have H0 := hid h
  rw [← hn]
  clear hl hn hx h
  go_enter Tryz.func175, Tryz.ntmps175
  go_wp2_with fail
  go_loopg [7] n (fun g i wr => ∃ j : Nat, j ≤ n ∧ g = n - j ∧ i = .int .i64 j ∧ Hid (PB wr B lo (b ++ Pp.encN (l.take j))) ∧ Hid (Mod (fun k => k = B) w wr))
  case atStart => exact ⟨0, by omega, rfl, rfl, by rw [List.take_zero]; rw [show b ++ Pp.encN [] = b by simp [Pp.encN]]; exact H0, hid (Mod.refl _ _)⟩
  case round =>
    obtain ⟨j, hj, rfl, rfl, hp, hm⟩ := hrel
    by_cases hlt : j < n
    · have hji : (j : Int) < (n : Int) := by omega
      obtain ⟨x, hxj⟩ : ∃ x, l[j]? = some x := ⟨l[j]'(by have := HN.out; omega), List.getElem?_eq_getElem _⟩
      have hx1 := HX.out x (List.mem_of_getElem? hxj)
      have hL := HL.out.mv (hm.out.mv fun k hk (e : k = B) => hG (e ▸ hk))
      obtain ⟨bb, off, rfl, hGb, hc⟩ := hL.2 (by simp [ic]; have := HN.out; omega)
      have hbB : bb ≠ B := fun e => hG (e ▸ hGb)
      have x0 : wr.cell? ⟨bb, off + j, none⟩ = some (.int .i64 (x : Int)) := hc j (.int .i64 (x : Int)) (by unfold ic; rw [List.getElem?_map, hxj]; rfl)
      clear hc hL
      obtain ⟨bj, hbj⟩ : ∃ bj, bj = b ++ Pp.encN (l.take j) := ⟨_, rfl⟩
      rw [← hbj] at hp
      have HBJ := hid hbj
      have hlen : bj.length ≤ 140737488354000 := by
        rw [hbj, List.length_append]
        have h1 : (Pp.encN (l.take j)).length ≤ _ := Pp.encN_le (l.take j)
        have h2 : (l.take j).length ≤ n := by rw [List.length_take, ← HN.out]; omega
        have := HB.out
        omega
      clear hbj
      obtain ⟨A, c, hbk, hsl⟩ := hp.out.bx
      have y0 : wr.cell? ⟨B, 0, none⟩ = some (.slice A bj.length c) := hbk.cell 0
      have hrd := hsl.rdf.rd (by decide)
      have HS := hid hsl
      clear hsl
      have hwx : IntKind.u64.wrap (x : Int) = (x : Int) := IntWalk.u64_in _ (by omega)
      have HK := hid hbk
      have HBB := hid hBlo
      go_wp2_with (go_at_call 167; (with_reducible refine (append_any A bj.length c bj x wr hrd hlen (by omega)).mono ?_); rintro e1 w1 hfr; obtain ⟨A1, c1, rfl, hs1, hb1⟩ := Fresh.sl hfr; have k1 := HK.out.later hb1; have y1 : w1.cell? ⟨B, 0, none⟩ = some (.slice A bj.length c) := k1.cell 0; have f1 : w1.frozen? ⟨B, 0, none⟩ = false := k1.frozen 0; clear hfr; have HS1 := hid hs1; have HB1 := hid hb1; clear hs1 hb1; clear hbk)
      go_roundg (n - (j + 1))
      case measure => omega
      case rel =>
        have hmr := hm.out
        have hB1 := HB1.out
        have hsz := hmr.size
        have hlt2 := HK.out.lt
        refine ⟨j + 1, by omega, rfl, by go_num, hid ⟨A1, c1, ?_, ?_⟩, hid ((hmr.behind hB1).trans_ (Mod.setCell (F := fun k => k = B) (p := ⟨B, 0, none⟩) rfl _))⟩
        case refine_1 =>
          have h4 := (HK.out.later hB1).set_ 0 (.slice A1 (bj ++ Vi.enc x).length c1)
          have : b ++ Pp.encN (l.take (j + 1)) = bj ++ Vi.enc x := by rw [HBJ.out, Pp.take_grow hxj, List.append_assoc]
          rw [this]
          simpa using h4
        case refine_2 =>
          have : b ++ Pp.encN (l.take (j + 1)) = bj ++ Vi.enc x := by rw [HBJ.out, Pp.take_grow hxj, List.append_assoc]
          rw [this]
          exact (Sl.setz HS1.out (HK.out.later hB1) (by decide) 0 _).to fun k hk => Nat.le_trans hlo (Nat.le_trans hsz hk)
    · obtain rfl : j = n := by omega
      go_wp2_with fail
      refine bodyPost_end (results_none rfl _ _ _) rfl ?_
      refine ⟨⟨_, rfl⟩, ?_, hm.out⟩
      have := hp.out
      rwa [List.take_of_length_le (by have := HN.out; omega)] at this
end Go.Proofs.YtbpnbcjgkbpmgaaGreat
namespace Go.Proofs.YtbpnbcjgkbpmgaaGreat
open Go.RowKit Go.Lg Ds St
set_option linter.unusedVariables false
set_option linter.unusedSimpArgs false
inductive Msg
  | hello (ep ro en : Nat) (l : List (Nat × Nat))
  | ship (ep fr pv : Nat) (cs : List Cmt)
  | ack (ep en : Nat)
def encS (l : List (Nat × Nat)) : Bys := l.flatMap fun p => Pp.encN [p.1, p.2]
def encCs (cs : List Cmt) : Bys := cs.flatMap fun c => Pp.encN [(encC c).length] ++ encC c
def Msg.enc : Msg → Bys
  | .hello ep ro en l => Pp.encN [1, ep, ro, en, l.length] ++ encS l
  | .ship ep fr pv cs => Pp.encN [2, ep, fr, pv, cs.length] ++ encCs cs
  | .ack ep en => Pp.encN [3, ep, en]
def EncM (b : Bys) (w : World) (e : Ending) (w' : World) : Prop := ∃ A c, e = .returned (.tuple #[.slice A b.length c, .int .i64 0]) ∧ Sl w' (fun k => w.heap.size ≤ k) 5 1 (.slice A b.length c) b.length (bts b) ∧ Below w.heap.size w w'
theorem lit_rdf (X : World) (l : List Nat) (cs : Array Value) (h : cs.toList = ic l) : RdF (X.alloc (.cells cs 3)) (fun k => k = X.heap.size) 1 (some ⟨X.heap.size, 0, none⟩) l.length (ic l) := by
  have kb := Blk.new X 3 cs
  refine ⟨by simp [ic], fun hl => ⟨X.heap.size, 0, rfl, rfl, fun j u hu => ?_⟩⟩
  rw [Nat.zero_add, cell_of_row _ _ _ _ _ _ kb, ← Array.getElem?_toList, h]
  exact hu
theorem lput_lit {X : World} {B lo : Nat} {b : Bys} (h : PB X B lo b) (hlo : lo ≤ X.heap.size) (hB : B < lo) (l : List Nat) (cs : Array Value) (n : Nat) (hcs : cs.toList = ic l) (hn : l.length = n) (hx : ∀ x ∈ l, x ≤ 9223372036854775807) (hb : b.length + l.length * 20 ≤ 140737488354000) :
    Calls Tryz.prog 175 #[.slice (some ⟨X.heap.size, 0, none⟩) n n, P B] (X.alloc (.cells cs 3)) fun e w' => (∃ v, e = .returned v) ∧ PB w' B lo (b ++ Pp.encN l) ∧ Mod (fun k => k = B) X w' := by
  have l1 : Lat X (X.alloc (.cells cs 3)) := (Lat.refl X).alloc _
  subst hn
  refine (lput175 (cs := l.length) (h.later l1) (Nat.le_trans hlo l1.size) hB (lit_rdf X l cs hcs) (by omega) hx hb).mono ?_
  rintro e w' ⟨h1, h2, h3⟩
  exact ⟨h1, h2, (l1.mod _).trans_ h3⟩
theorem PB.mod {w w' : World} {B lo : Nat} {b : Bys} {F : Fp} (h : PB w B lo b) (m : Mod F w w') (hB : ¬F B) (hF : ∀ k, F k → k < lo) : PB w' B lo b := by
  obtain ⟨A, c, h1, h2⟩ := h.bx
  refine ⟨A, c, Blk.mod h1 m hB, h2.mv (m.mv fun k hk hf => ?_)⟩
  have := hF k hf
  have : lo ≤ k := hk
  omega
structure Enc1 (w w' : World) (cs : Array Value) (B : Nat) (b : Bys) : Prop where
  pb : PB w' B (B + 1) b
  box : Blk w' w.heap.size 147 cs
  lt : w.heap.size < B
  bl : Below w.heap.size w w'
  sz : B < w'.heap.size
theorem Enc1.new {w W w1 : World} {cs : Array Value} (k : Blk w1 w.heap.size 147 cs) (l : Lat w w1) : Enc1 w (w1.alloc (.cells #[.slice none 0 0] 80)) cs w1.heap.size [] := by
  have l1 : Lat w1 (w1.alloc (.cells #[.slice none 0 0] 80)) := (Lat.refl w1).alloc _
  exact ⟨⟨none, 0, Blk.new _ _ _, Sl.nil_ _ _ _ _⟩, k.alloc _, k.lt, (l.below l1.b).b, by simp⟩
theorem _root_.Go.Lg.Mod.below_ {w0 w w' : World} {B : Nat} (m : Mod (fun k => k = B) w w') (h : w0.heap.size < B) (hs : w0.heap.size ≤ w.heap.size) : Below w0.heap.size w w' :=
  ⟨m.os, m.tape, m.output, m.size, fun k hk => m.block k (Nat.lt_of_lt_of_le hk hs) (by omega)⟩
theorem Enc1.next {w w' w2 : World} {cs : Array Value} {B : Nat} {b b' : Bys} (h : Enc1 w w' cs B b) (p : PB w2 B (B + 1) b') (m : Mod (fun k => k = B) w' w2) : Enc1 w w2 cs B b' :=
  ⟨p, Blk.mod h.box m (by have := h.lt; omega), h.lt, h.bl.trans (m.below_ h.lt h.bl.size), Nat.lt_of_lt_of_le h.sz m.size⟩
theorem Enc1.put {w X : World} {cm : Array Value} {B : Nat} {b : Bys} (h : Enc1 w X cm B b) (l : List Nat) (cs : Array Value) (n : Nat) (hcs : cs.toList = ic l) (hn : l.length = n) (hx : ∀ x ∈ l, x ≤ 9223372036854775807) (hb : b.length + l.length * 20 ≤ 140737488354000) :
    Calls Tryz.prog 175 #[.slice (some ⟨X.heap.size, 0, none⟩) n n, P B] (X.alloc (.cells cs 3)) fun e w' => (∃ v, e = .returned v) ∧ Enc1 w w' cm B (b ++ Pp.encN l) :=
  (lput_lit h.pb h.sz (Nat.lt_succ_self _) l cs n hcs hn hx hb).mono fun _ _ q => ⟨q.1, h.next q.2.1 q.2.2⟩
theorem Enc1.putz {w X : World} {cm : Array Value} {B : Nat} {b : Bys} (h : Enc1 w X cm B b) (l : List Nat) (cs : Array Value) (n z : Nat) (hz : z = X.heap.size) (hcs : cs.toList = ic l) (hn : l.length = n) (hx : ∀ x ∈ l, x ≤ 9223372036854775807) (hb : b.length + l.length * 20 ≤ 140737488354000) :
    Calls Tryz.prog 175 #[.slice (some ⟨z, 0, none⟩) n n, P B] (X.alloc (.cells cs 3)) fun e w' => (∃ v, e = .returned v) ∧ Enc1 w w' cm B (b ++ Pp.encN l) := by
  subst hz
  exact h.put l cs n hcs hn hx hb
theorem Enc1.later {w w' w2 : World} {cs : Array Value} {B : Nat} {b : Bys} (h : Enc1 w w' cs B b) (l : Lat w' w2) : Enc1 w w2 cs B b :=
  ⟨h.pb.later l, l.blk h.box, h.lt, h.bl.trans (l.b.mono h.bl.size), Nat.lt_of_lt_of_le h.sz l.size⟩
theorem Enc1.fin {w w' : World} {cs : Array Value} {B : Nat} {b : Bys} (h : Enc1 w w' cs B b) : ∃ A c, w'.cell? ⟨B, 0, none⟩ = some (.slice A b.length c) ∧ EncM b w (.returned (.tuple #[.slice A b.length c, .int .i64 0])) w' := by
  obtain ⟨A, c, h1, h2⟩ := h.pb.bx
  refine ⟨A, c, h1.cell 0, A, c, rfl, h2.to fun k hk => ?_, h.bl⟩
  have := h.lt
  have : B + 1 ≤ k := hk
  show w.heap.size ≤ k
  omega
set_option maxHeartbeats 4000000 in
set_option maxRecDepth 100000 in
theorem encode_ack {w : World} (ep en : Nat) (h2 : en ≤ 1048576) (e1 : 1 ≤ ep) (e2 : ep ≤ 1048576) : Calls Tryz.prog 139 #[.agg (msgc 3 ep 0 en nils 0 0 nils)] w (EncM (Msg.ack ep en).enc w) := by
  obtain ⟨W, hW⟩ : ∃ W, W = w.alloc (.cells (msgc 3 ep 0 en nils 0 0 nils) 147) := ⟨_, rfl⟩
  have lW : Lat w W := by rw [hW]; exact (Lat.refl w).alloc _
  have kW : Blk W w.heap.size 147 (msgc 3 ep 0 en nils 0 0 nils) := by rw [hW]; exact Blk.new _ _ _
  have hck := lcheck121 (w := W) (Mok.ack (w := W) (B := W.heap.size) ep en (by omega) (by omega) (by omega) (by omega))
  obtain ⟨c0, c1, c2, c3, c4, c5, c6, c7⟩ := mcells kW
  have HLW := hid lW
  have HK := hid kW
  clear lW kW
  go_enter Tryz.func139, Tryz.ntmps139
  go_upto_region 1 with fail
  rw [← hW]
  clear hW
  go_upto_region 6 with (first | (go_at_call 121; (with_reducible refine hck.mono ?_); rintro e' w1 ⟨rfl, hb1⟩; have hE := Enc1.new (W := W) (HK.out.later hb1) (HLW.out.below hb1); have HSZ := hid hb1.size; clear hb1))
  obtain ⟨w4, hw4⟩ : ∃ w4, w4 = w1.alloc (.cells #[.slice none 0 0] 80) := ⟨_, rfl⟩
  rw [← hw4] at hE ⊢
  obtain ⟨B, hB⟩ : ∃ B, B = w1.heap.size := ⟨_, rfl⟩
  rw [← hB] at hE ⊢
  clear hB hw4 hck c0 c1 c2 c3 c4 c5 c6 c7
  obtain ⟨c0, c1, c2, c3, c4, c5, c6, c7⟩ := mcells hE.box
  have HE := hid hE
  clear hE
  go_upto_region 7 with (go_at_call 175; (with_reducible refine (HE.out.put [3, ep] #[.int .i64 3, .int .i64 (ep : Int)] 2 rfl rfl (by simp; omega) (by simp)).mono ?_); rintro e' w5 ⟨⟨v5, rfl⟩, hE5⟩)
  clear c0 c1 c2 c3 c4 c5 c6 c7
  obtain ⟨c0, c1, c2, c3, c4, c5, c6, c7⟩ := mcells hE5.box
  have HE5 := hid hE5
  clear hE5
  go_upto_region 26 with (go_at_call 175; (with_reducible refine (HE5.out.put [en] #[.int .i64 (en : Int)] 1 rfl rfl (by simp; omega) (by simp [Pp.encN]; have := Vi.encF_len_le 9 ep; have := Vi.encF_len_le 9 3; unfold Vi.enc; omega)).mono ?_); rintro e' w6 ⟨⟨v6, rfl⟩, hE6⟩)
  clear c0 c1 c2 c3 c4 c5 c6 c7
  rw [show [] ++ Pp.encN [3, ep] ++ Pp.encN [en] = (Msg.ack ep en).enc by simp [Msg.enc, Pp.encN]] at hE6
  obtain ⟨A, c, q, hq⟩ := hE6.fin
  have HQ := hid hq
  clear hE6 hq
  go_wp2_with fail
  go_ret2
  exact HQ.out
end Go.Proofs.YtbpnbcjgkbpmgaaGreat
namespace Go.Proofs.YtbpnbcjgkbpmgaaGreat
open Go.RowKit Go.Lg Ds St
set_option linter.unusedVariables false
set_option linter.unusedSimpArgs false
def si (l : List (Nat × Nat)) : List (Int × Int) := l.map fun p => ((p.1 : Int), (p.2 : Int))
theorem si_length (l : List (Nat × Nat)) : (si l).length = l.length := by simp [si]
theorem si_at {l : List (Nat × Nat)} {j : Nat} {p : Nat × Nat} (h : l[j]? = some p) : Sl.E (si l) j = p.1 ∧ Sl.F (si l) j = p.2 := by
  have h2 : (si l)[j]? = some ((p.1 : Int), (p.2 : Int)) := by unfold si; rw [List.getElem?_map, h]; rfl
  unfold Sl.E Sl.F
  simp [List.getD, h2]
theorem encS_le (l : List (Nat × Nat)) : (encS l).length ≤ l.length * 20 := by
  induction l with
  | nil => simp [encS]
  | cons a l ih =>
    have h1 := Pp.encN_le [a.1, a.2]
    simp only [encS, List.flatMap_cons, List.length_append, List.length_cons] at ih ⊢
    simp only [List.length_cons, List.length_nil] at h1
    omega
theorem encS_snoc {l : List (Nat × Nat)} {j : Nat} {p : Nat × Nat} (h : l[j]? = some p) : encS (l.take (j + 1)) = encS (l.take j) ++ Pp.encN [p.1, p.2] := by
  rw [take_succ_get? h]
  simp [encS]
set_option maxHeartbeats 4000000 in
set_option maxRecDepth 100000 in
theorem encode_hello {w : World} (ep ro en : Nat) {A : Option Addr} {n c : Nat} {l : List (Nat × Nat)} (hss : SS w w.heap.size A n (si l)) (hok : Sl.ok (si l) en) (r1 : 1 ≤ ro) (r2 : ro ≤ 3) (hlast : 0 < n → Sl.E (si l) (n - 1) ≤ ep) (hn : n ≤ 100000) (h2 : en ≤ 1048576) (e1 : 1 ≤ ep) (e2 : ep ≤ 1048576) (hsm : ∀ p ∈ l, p.1 ≤ 1048576 ∧ p.2 ≤ 1048576) :
    Calls Tryz.prog 139 #[.agg (msgc 1 ep ro en (.slice A n c) 0 0 nils)] w (EncM (Msg.hello ep ro en l).enc w) := by
  obtain ⟨cs, hcs⟩ : ∃ cs, cs = msgc 1 ep ro en (.slice A n c) 0 0 nils := ⟨_, rfl⟩
  obtain ⟨W, hW⟩ : ∃ W, W = w.alloc (.cells (msgc 1 ep ro en (.slice A n c) 0 0 nils) 147) := ⟨_, rfl⟩
  have lW : Lat w W := by rw [hW]; exact (Lat.refl w).alloc _
  have kW : Blk W w.heap.size 147 (msgc 1 ep ro en (.slice A n c) 0 0 nils) := by rw [hW]; exact Blk.new _ _ _
  have hck := lcheck121 (w := W) (Mok.hello (w := W) (B := W.heap.size) ep ro en A n c (si l) ((hss.keep lW.b).more lW.size) hok (by omega) (by omega) hlast hn (by omega) (by omega))
  obtain ⟨c0, c1, c2, c3, c4, c5, c6, c7⟩ := mcells kW
  have HLW := hid lW
  have HK := hid kW
  have HSS := hid hss
  have HSM := hid hsm
  have HN : Hid (l.length = n) := hid (by rw [← si_length]; exact hss.2)
  have hwr : IntKind.i64.wrap (ro : Int) = (ro : Int) := IntWalk.i64_in _ (by omega)
  clear lW kW hcs hss hok hlast hsm
  go_enter Tryz.func139, Tryz.ntmps139
  go_upto_region 1 with fail
  rw [← hW]
  clear hW
  go_upto_region 6 with (first | (go_at_call 121; (with_reducible refine hck.mono ?_); rintro e' w1 ⟨rfl, hb1⟩; have hE := Enc1.new (W := W) (HK.out.later hb1) (HLW.out.below hb1); have HSZ := hid hb1.size; clear hb1))
  obtain ⟨w4, hw4⟩ : ∃ w4, w4 = w1.alloc (.cells #[.slice none 0 0] 80) := ⟨_, rfl⟩
  rw [← hw4] at hE ⊢
  obtain ⟨B, hB⟩ : ∃ B, B = w1.heap.size := ⟨_, rfl⟩
  rw [← hB] at hE ⊢
  clear hB hw4 hck c0 c1 c2 c3 c4 c5 c6 c7
  obtain ⟨c0, c1, c2, c3, c4, c5, c6, c7⟩ := mcells hE.box
  have HE := hid hE
  clear hE
  go_upto_region 7 with (go_at_call 175; (with_reducible refine (HE.out.put [1, ep] #[.int .i64 1, .int .i64 (ep : Int)] 2 rfl rfl (by simp; omega) (by simp)).mono ?_); rintro e' w5 ⟨⟨v5, rfl⟩, hE5⟩)
  clear c0 c1 c2 c3 c4 c5 c6 c7
  obtain ⟨c0, c1, c2, c3, c4, c5, c6, c7⟩ := mcells hE5.box
  have HE5 := hid hE5
  clear hE5
  go_upto_region 10 with (go_at_call 175; (with_reducible refine (HE5.out.put [ro, en, n] #[.int .i64 (ro : Int), .int .i64 (en : Int), .int .i64 (n : Int)] 3 rfl rfl (by simp; omega) (by have := Pp.encN_le [1, ep]; simp at this ⊢; omega)).mono ?_); rintro e' w6 ⟨⟨v6, rfl⟩, hE6⟩)
  clear c0 c1 c2 c3 c4 c5 c6 c7
  obtain ⟨c0, c1, c2, c3, c4, c5, c6, c7⟩ := mcells hE6.box
  rw [show [] ++ Pp.encN [1, ep] ++ Pp.encN [ro, en, n] = Pp.encN [1, ep, ro, en, l.length] by rw [HN.out]; simp [Pp.encN]] at hE6
  have HE6 := hid hE6
  clear hE6
  go_wp2_with fail
  go_loopg [44] n (fun g i wr => ∃ j : Nat, j ≤ n ∧ g = n - j ∧ i = .int .i64 j ∧ Hid (Enc1 w wr (msgc 1 ep ro en (.slice A n c) 0 0 nils) B (Pp.encN [1, ep, ro, en, l.length] ++ encS (l.take j))))
  case atStart => exact ⟨0, by omega, rfl, rfl, by rw [List.take_zero]; simpa [encS] using HE6⟩
  case round =>
    obtain ⟨j, hj, rfl, rfl, hr⟩ := hrel
    by_cases hlt : j < n
    · have hji : (j : Int) < (n : Int) := by omega
      obtain ⟨p, hp⟩ : ∃ p, l[j]? = some p := ⟨l[j]'(by have := HN.out; omega), List.getElem?_eq_getElem _⟩
      have hps := HSM.out p (List.mem_of_getElem? hp)
      obtain ⟨b, off, rfl, hbB, x0, x1⟩ := (HSS.out.keep hr.out.bl).at_ hlt
      rw [(si_at hp).1] at x0
      rw [(si_at hp).2] at x1
      have hln : (encS (l.take j)).length ≤ 2000000 := by
        have h1 := encS_le (l.take j)
        rw [List.length_take] at h1
        omega
      go_wp2_with (go_at_call 175; (with_reducible refine ((hr.out.later ((Lat.refl wr).alloc (.cells #[.int .i64 (p.1 : Int), .int .i64 (p.2 : Int)] 198))).putz [p.1, p.2] #[.int .i64 (p.1 : Int), .int .i64 (p.2 : Int)] 2 (wr.heap.size + 1) (by simp) rfl rfl (by simp; omega) (by have := Pp.encN_le [1, ep, ro, en, l.length]; simp at this ⊢; omega)).mono ?_); rintro e' w7 ⟨⟨v7, rfl⟩, hE7⟩; have HE7 := hid hE7; clear hE7)
      go_roundg (n - (j + 1))
      case measure => omega
      case rel => exact ⟨j + 1, by omega, rfl, by go_num, by rw [encS_snoc hp, ← List.append_assoc]; exact HE7⟩
    · obtain rfl : j = n := by omega
      have hE8 := hr.out
      rw [List.take_of_length_le (by have := HN.out; omega), show Pp.encN [1, ep, ro, en, l.length] ++ encS l = (Msg.hello ep ro en l).enc from rfl] at hE8
      obtain ⟨A2, c2, q, hq⟩ := hE8.fin
      have HQ := hid hq
      clear hE8 hq
      go_wp2_with fail
      go_ret2
      exact HQ.out
end Go.Proofs.YtbpnbcjgkbpmgaaGreat
namespace Go.Proofs.YtbpnbcjgkbpmgaaGreat
open Go.RowKit Go.Lg St
set_option linter.unusedVariables false
set_option linter.unusedSimpArgs false
theorem small_enc {m : Int} {x : Nat} (r : Bys) (h : (x : Int) ≤ m) (hx : x < 2 ^ 64) : Vi.small m (Vi.enc x ++ r) = (x, (Vi.enc x).length, 0) := by
  unfold Vi.small
  rw [Vi.dec_enc x r hx, if_neg (by simp; omega)]
def Pt (b : Bys) (s : Nat) (r : Bys) : Prop := b.drop s = r ∧ s ≤ b.length
theorem Pt.step {b x r : Bys} {s : Nat} (h : Pt b s (x ++ r)) : Pt b (s + x.length) r := by
  obtain ⟨h1, h2⟩ := h
  have hl := congrArg List.length h1
  simp at hl
  exact ⟨by rw [← List.drop_drop, h1]; simp, by omega⟩
theorem Pt.len {b x r : Bys} {s : Nat} (h : Pt b s (x ++ r)) : x.length ≤ b.length - s := by
  have hl := congrArg List.length h.1
  simp at hl
  omega
theorem rnum_pt {b r : Bys} {s x : Nat} {m : Int} (h : Pt b s (Vi.enc x ++ r)) (hm : (x : Int) ≤ m) (hx : x < 2 ^ 64) : rnum b m (s, false) = (x, (s + (Vi.enc x).length, false)) := by
  unfold rnum
  rw [if_neg (by simp), h.1, small_enc r hm hx, if_neg (by simp)]
theorem rtext_pt {b t r : Bys} {s : Nat} {m : Int} (h : Pt b s (Vi.enc t.length ++ (t ++ r))) (hm : (t.length : Int) ≤ m) (hx : t.length < 2 ^ 64) : rtext b m (s, false) = (t, (s + (Vi.enc t.length).length + t.length, false)) := by
  have h1 := h.step
  have h2 := h1.len
  unfold rtext
  rw [rnum_pt h hm hx]
  simp only
  rw [if_neg (by simp; omega), h1.1, List.take_left' rfl]
theorem rkey_pt {b last k r : Bys} {s : Nat} (h : Pt b s (Vi.enc (sh last k) ++ (Vi.enc (k.length - sh last k) ++ (k.drop (sh last k) ++ r)))) (hk : k.length ≤ 16) (hl : last.length ≤ 16) :
    ∃ s', rkey b last (s, false) = (k, (s', false)) ∧ Pt b s' r := by
  have hs := sh_le last k
  have hn := rnum_pt (m := last.length) h (by omega) (by omega)
  have h1 := h.step
  have hd : (k.drop (sh last k)).length = k.length - sh last k := by simp
  rw [← hd] at h1
  have ht := rtext_pt (m := 16) h1 (by omega) (by omega)
  have e : last.take (sh last k) ++ k.drop (sh last k) = k := by rw [sh_take, List.take_append_drop]
  refine ⟨_, ?_, h1.step.step⟩
  unfold rkey
  rw [hn]
  simp only
  rw [ht]
  simp only
  rw [e]
  simp
theorem loop_len (b : ByteArray) : ∀ (n i : Nat) (r : List UInt8), b.size - i = n → (ByteArray.toList.loop b i r).length = r.length + n := by
  intro n
  induction n with
  | zero =>
    intro i r h
    unfold ByteArray.toList.loop
    rw [if_neg (by omega)]
    simp
  | succ n ih =>
    intro i r h
    unfold ByteArray.toList.loop
    rw [if_pos (by omega), ih (i + 1) _ (by omega)]
    simp
    omega
theorem val_nil {v : ByteArray} (h : v.toList.isEmpty = true) : v = ba [] := by
  have h1 := loop_len v v.size 0 [] (by omega)
  have h2 : v.toList = [] := by simpa using h
  unfold ByteArray.toList at h2
  rw [h2] at h1
  simp at h1
  apply kb_inj
  rw [kb_ba]
  apply List.eq_nil_of_length_eq_zero
  rw [kb_length]
  omega
theorem rop_pt {b last r : Bys} {o : Op3} {s : Nat} (h : Pt b s (encOp last o ++ r)) (hok : o.ok) (hl : last.length ≤ 16) :
    ∃ s', rop b last (s, false) = (o, (s', false)) ∧ Pt b s' r := by
  obtain ⟨p, k, v⟩ := o
  obtain ⟨k1, k2, v1, v2⟩ := hok
  simp only at k1 k2 v1 v2
  have hk : (kb k).length ≤ 16 := by rw [kb_length]; exact k2
  cases p with
  | true =>
    have e1 : encOp last ⟨true, k, v⟩ ++ r = Vi.enc 1 ++ (Vi.enc (sh last (kb k)) ++ (Vi.enc ((kb k).length - sh last (kb k)) ++ ((kb k).drop (sh last (kb k)) ++ (Vi.enc (kb v).length ++ (kb v ++ r))))) := by
      simp [encOp, Vi.enc, Vi.encF]
    rw [e1] at h
    have h0 := rnum_pt (m := 1) h (by omega) (by omega)
    obtain ⟨s2, h2, p2⟩ := rkey_pt h.step hk hl
    have hv : (kb v).length ≤ 32 := by rw [kb_length]; exact v1
    have h3 := rtext_pt (m := 32) p2 (by omega) (by omega)
    refine ⟨_, ?_, p2.step.step⟩
    unfold rop
    rw [h0]
    simp only
    rw [if_pos trivial, h2]
    simp only
    rw [h3]
    simp
  | false =>
    obtain rfl := val_nil (v2 rfl)
    have e1 : encOp last ⟨false, k, ba []⟩ ++ r = Vi.enc 0 ++ (Vi.enc (sh last (kb k)) ++ (Vi.enc ((kb k).length - sh last (kb k)) ++ ((kb k).drop (sh last (kb k)) ++ r))) := by
      simp [encOp, Vi.enc, Vi.encF]
    rw [e1] at h
    have h0 := rnum_pt (m := 1) h (by omega) (by omega)
    obtain ⟨s2, h2, p2⟩ := rkey_pt h.step hk hl
    refine ⟨s2, ?_, p2⟩
    unfold rop
    rw [h0]
    simp only
    rw [if_neg (by simp), h2]
    simp
theorem rops_pt {b : Bys} : ∀ (os : List Op3) (last r : Bys) (s : Nat), Pt b s (encOps last os ++ r) → (∀ o ∈ os, o.ok) → last.length ≤ 16 →
    ∃ s', rops b os.length last (s, false) = (os, (s', false)) ∧ Pt b s' r
  | [], last, r, s, h, _, _ => ⟨s, rfl, h⟩
  | o :: os, last, r, s, h, hok, hl => by
    rw [encOps, List.append_assoc] at h
    have ho := hok o List.mem_cons_self
    obtain ⟨s1, h1, p1⟩ := rop_pt h ho hl
    obtain ⟨s2, h2, p2⟩ := rops_pt os (kb o.key) r s1 p1 (fun x hx => hok x (List.mem_cons_of_mem _ hx)) (by rw [kb_length]; exact ho.2.1)
    refine ⟨s2, ?_, p2⟩
    rw [List.length_cons, rops, if_neg (by simp), h1]
    simp only
    rw [h2]
theorem bk_ok {os : List Op3} (h : bk os = 0) : (∀ o ∈ os, o.ok) ∧ 1 ≤ os.length ∧ os.length ≤ 8 := by
  unfold bk at h
  split at h
  · cases h
  · split at h
    · cases h
    · split at h
      · rename_i h1 h2 h3
        exact ⟨h3, by omega, by omega⟩
      · cases h
theorem readB_enc {os : List Op3} (r : Bys) (h : bk os = 0) : readB (encB os ++ r) = some (os, (encB os).length) := by
  obtain ⟨h1, h2, h3⟩ := bk_ok h
  have p0 : Pt (encB os ++ r) 0 (Vi.enc os.length ++ (encOps [] os ++ r)) := ⟨by simp [encB], Nat.zero_le _⟩
  have e0 := rnum_pt (m := 8) p0 (by omega) (by omega)
  obtain ⟨s', e1, p1⟩ := rops_pt os [] r _ p0.step h1 (by simp)
  have hs : s' = (encB os).length := by
    have hl := congrArg List.length p1.1
    have := p1.2
    simp at hl this
    omega
  unfold readB
  rw [e0]
  simp only
  rw [e1]
  simp only
  rw [if_neg (by rw [h]; simp), hs]
theorem decC_enc {c : Cmt} (h : c.k = 0) : decC (encC c) = some c := by
  obtain ⟨ep, num, os⟩ := c
  have hk := h
  unfold Cmt.k at h
  simp only at h
  split at h
  · rename_i hb
    obtain ⟨⟨e1, e2⟩, n1, n2⟩ := hb
    obtain ⟨e, rfl⟩ : ∃ e : Nat, ep = e := ⟨ep.toNat, by omega⟩
    obtain ⟨m, rfl⟩ : ∃ m : Nat, num = m := ⟨num.toNat, by omega⟩
    have p0 : Pt (encC ⟨e, m, os⟩) 0 (Vi.enc e ++ (Vi.enc m ++ (encB os ++ []))) := ⟨by simp [encC], Nat.zero_le _⟩
    have p1 := p0.step
    have p2 := p1.step
    rw [Nat.zero_add] at p1 p2
    have s0 : Vi.small 1048576 (encC ⟨e, m, os⟩) = (e, (Vi.enc e).length, 0) := by
      have := p0.1
      rw [List.drop_zero] at this
      rw [this]
      exact small_enc _ (by omega) (by omega)
    have s1 : Vi.small 1048576 ((encC ⟨e, m, os⟩).drop (Vi.enc e).length) = (m, (Vi.enc m).length, 0) := by
      rw [p1.1]
      exact small_enc _ (by omega) (by omega)
    unfold decC
    rw [s0]
    simp only
    rw [if_neg (by simp), s1]
    simp only
    rw [if_neg (by simp), p2.1, readB_enc [] h]
    simp only
    rw [if_pos ⟨by simp [encC]; omega, hk⟩]
  · cases h
theorem enc_le (x : Nat) : (Vi.enc x).length ≤ 10 := Vi.encF_len_le 9 x
theorem encOp_le {last : Bys} {o : Op3} (h : o.ok) : (encOp last o).length ≤ 100 := by
  obtain ⟨p, k, v⟩ := o
  obtain ⟨k1, k2, v1, v2⟩ := h
  simp only at k1 k2 v1 v2
  have a := enc_le (sh last (kb k))
  have b := enc_le ((kb k).length - sh last (kb k))
  have c := enc_le (kb v).length
  have d := kb_length k
  have e := kb_length v
  unfold encOp
  simp only [List.length_cons, List.length_append, List.length_drop]
  split
  · simp only [List.length_append]
    omega
  · simp only [List.length_nil]
    omega
theorem encOps_le : ∀ (os : List Op3) (last : Bys), (∀ o ∈ os, o.ok) → (encOps last os).length ≤ os.length * 100
  | [], _, _ => by simp [encOps]
  | o :: os, last, h => by
    have h1 := encOp_le (last := last) (h o List.mem_cons_self)
    have h2 := encOps_le os (kb o.key) (fun x hx => h x (List.mem_cons_of_mem _ hx))
    simp only [encOps, List.length_append, List.length_cons]
    omega
theorem encC_le {c : Cmt} (h : c.k = 0) : (encC c).length ≤ 1000 := by
  unfold Cmt.k at h
  split at h
  · obtain ⟨h1, h2, h3⟩ := bk_ok h
    have a := enc_le c.ep.toNat
    have b := enc_le c.num.toNat
    have d := enc_le c.os.length
    have e := encOps_le c.os [] h1
    simp only [encC, encB, List.length_append]
    omega
  · cases h
end Go.Proofs.YtbpnbcjgkbpmgaaGreat
