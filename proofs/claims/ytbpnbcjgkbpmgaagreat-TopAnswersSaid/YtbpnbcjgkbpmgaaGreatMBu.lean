/- A primary answers without waiting for the other site, as many times as its leash allows: of any acts. No condition. (part 47) -/
import Derived.WalkMore
import Derived.Test.YtbpnbcjgkbpmgaaGreatMBt
namespace Go.Proofs.YtbpnbcjgkbpmgaaGreat
open Go.RowKit Go.Lg Go.Shelf Ds St
set_option linter.unusedVariables false
set_option linter.unusedSimpArgs false
abbrev c0 : Cmt := ⟨1, 1, [⟨true, { data := #[97] }, { data := #[49] }⟩]⟩
theorem c0_one : One 0 [c0] := ⟨by decide, rfl, rfl, trivial⟩
abbrev H0 : Bys := (hloM 1 [c0]).enc
abbrev H1 (cs : List Cmt) : Bys := (hloM 2 cs).enc
abbrev SH (k : Nat) : Bys := (shpM [c0] k).enc
abbrev AK : Bys := (Msg.ack 1 1).enc
abbrev Sx (ac kn : Int) (B1 : Nat) (cs1 : List Cmt) (last : Int) (ks : List Lk.Key) : PW := ⟨⟨p1, [c0], ac, kn, 4000⟩, ⟨p2, cs1, 0, -1, B1⟩, last, ks⟩
section
variable {zw : Nat} {q : Wz} {ac kn last last' : Int} {B1 : Nat} {cs1 : List Cmt} {ks ks' : List Lk.Key}
theorem tick0 (l0 : 0 ≤ last) (l1 : last ≤ 1000) (hp : postL 1 ((dueM 1 [c0] kn).map Msg.enc) (last, ks) = (last', ks')) : Turns 51 0 zw 1 q (Sx ac kn B1 cs1 last ks) (Sx ac kn B1 cs1 last' ks') := fun W tag hT h => by
  have := wtick51 0 (by decide) 1 (.inl rfl) [c0] kn hT h ⟨rfl, rfl, rfl⟩ c0_one (by decide) l0 (Int.le_trans l1 (by decide))
  rw [show (1 : Int) - ((0 : Nat) : Int) = 1 from rfl, hp] at this
  exact this
theorem tick1 (l0 : 0 ≤ last) (l1 : last ≤ 1000) (h1 : One 0 cs1) (hc : cs1.length ≤ 1) (hp : postL 0 ((dueM 2 cs1 (-1)).map Msg.enc) (last, ks) = (last', ks')) : Turns 51 1 zw 1 q (Sx ac kn B1 cs1 last ks) (Sx ac kn B1 cs1 last' ks') := fun W tag hT h => by
  have := wtick51 1 (by decide) 2 (.inr rfl) cs1 (-1) hT h ⟨rfl, rfl, rfl⟩ h1 (by omega) l0 (Int.le_trans l1 (by decide))
  rw [show (1 : Int) - ((1 : Nat) : Int) = 0 from rfl, hp] at this
  exact this
theorem del_h1 {num : Int} (l0 : 0 ≤ last) (l1 : last ≤ 1000) (hE : Lk.dE num ks = 0) (hX : Lk.dX num ks = (num, 1, H0)) (hK : Lk.dK num ks = ks') : Turns 23 num zw 1 q (Sx ac kn B1 cs1 last ks) (Sx ac kn B1 cs1 last ks') := fun W tag hT h => by
  have := wdeliver23_1 (bs := []) (ac' := 0) (kn' := -1) (cs' := cs1) (B' := B1) hT h hE hX l0 (Int.le_trans l1 (by decide)) (by simp) (fun x hx => absurd hx List.not_mem_nil) (fun X tagX A c hTX hn hr hc hm => rc_hello1 (en := 1) hTX hn (by decide) hr hc hm)
  rw [hK] at this
  exact this
theorem del_h0 {num kn' ac' : Int} (l0 : 0 ≤ last) (l1 : last ≤ 1000) (a1 : 0 ≤ ac) (a2 : ac ≤ 1) (hc1 : cs1.length ≤ 1) {cs : List Cmt} (hcl : cs.length ≤ 1) (hk : kn' = max (max kn 0) (cs.length : Nat)) (ha : ac' = max ac (min kn' 1)) (hE : Lk.dE num ks = 0) (hX : Lk.dX num ks = (num, 0, H1 cs)) (hK : Lk.dK num ks = ks') : Turns 23 num zw 1 q (Sx ac kn B1 cs1 last ks) (Sx ac' kn' B1 cs1 last ks') := fun W tag hT h => by
  have := wdeliver23_0 (bs := []) (ac' := ac') (kn' := kn') (cs' := [c0]) (B' := 4000) hT h hE hX l0 (Int.le_trans l1 (by decide)) (by simp) (fun x hx => absurd hx List.not_mem_nil) (Nat.le_refl _) (fun X tagX A c hTX hn hr hc hm => rc_hello0 (en := cs.length) hTX hn (by decide) a1 a2 (by omega) hk ha hr hc hm)
  rw [hK] at this
  exact this
theorem del_ak {num kn' ac' : Int} (l0 : 0 ≤ last) (l1 : last ≤ 1000) (a1 : 0 ≤ ac) (a2 : ac ≤ 1) (hk : kn' = max (max kn 0) 1) (ha : ac' = max ac (min kn' 1)) (hE : Lk.dE num ks = 0) (hX : Lk.dX num ks = (num, 0, AK)) (hK : Lk.dK num ks = ks') : Turns 23 num zw 1 q (Sx ac kn B1 cs1 last ks) (Sx ac' kn' B1 cs1 last ks') := fun W tag hT h => by
  have := wdeliver23_0 (bs := []) (ac' := ac') (kn' := kn') (cs' := [c0]) (B' := 4000) hT h hE hX l0 (Int.le_trans l1 (by decide)) (by simp) (fun x hx => absurd hx List.not_mem_nil) (Nat.le_refl _) (fun X tagX A c hTX hn hr hc hm => rc_ack0 (en := 1) hTX hn (by decide) a1 a2 (by decide) hk ha hr hc hm)
  rw [hK] at this
  exact this
theorem del_sh {num : Int} (l0 : 0 ≤ last) (l1 : last ≤ 1000) {fr pv : Nat} {cl : List Cmt} (f1 : 1 ≤ fr) (f2 : fr ≤ 10) (hpv : pv = 0 ↔ fr = 1) (hpv1 : pv ≤ 1) (hcl : One (fr - 1) cl) (hn : cl.length ≤ 4) (hg : fr - 1 ≤ cs1.length) (hc1 : One 0 cs1) {tk : List Cmt} (htk : tk = beh cs1.length cl) (h1 : One 0 (cs1 ++ tk)) (htl : tk.length ≤ 1) (hcs : (cs1 ++ tk).length = 1) (hB : B1 ≤ 400000)
    (hE : Lk.dE num ks = 0) (hX : Lk.dX num ks = (num, 1, (Msg.ship 1 fr pv cl).enc)) (hK : postL 0 [AK] (last, Lk.dK num ks) = (last', ks')) : Turns 23 num zw 1 q (Sx ac kn B1 cs1 last ks) (Sx ac kn (B1 + 2000) (cs1 ++ tk) last' ks') := fun W tag hT h => by
  have hle : cs1.length ≤ 1 := by have := hcs; simp at this; omega
  have hak : AK.length ≤ 1000 := by decide +kernel
  have := wdeliver23_1 (bs := [AK]) (ac' := 0) (kn' := -1) (cs' := cs1 ++ tk) (B' := B1 + 2000) hT h hE hX l0 (Int.le_trans l1 (by decide)) (by simp) (fun x hx => by rw [List.mem_singleton.1 hx]; omega) (fun X tagX A c hTX hn' hr hc hm => by
    have h9 := rc_ship1 (fr := fr) (pv := pv) (cl := cl) (tk := tk) hTX hn' f1 (by omega) hpv hpv1 hcl hn hg hc1 htk h1 htl (Nat.le_trans hle (by decide)) (Nat.le_trans hB (by decide)) hr hc hm
    rw [hcs] at h9
    exact h9)
  rw [hK] at this
  exact this
end
end Go.Proofs.YtbpnbcjgkbpmgaaGreat
namespace Go.Proofs.YtbpnbcjgkbpmgaaGreat
open Go.RowKit Go.Lg Go.Shelf Ds St
set_option linter.unusedVariables false
set_option linter.unusedSimpArgs false
def Rnds (zw : Nat) (q : Wz) (S S' : PW) : Prop := ∀ W tag, Tidy W tag → WMp W tag zw 1 q S → Calls Tryz.prog 9 #[P zw, .agg (actc 12 0 0 0 noStr none 0 0)] W (ADid tag zw 1 q 0 0 noStr false 2000 S'.s0 S'.s1 S'.last S'.ks W)
theorem rnd_of {zw : Nat} {q : Wz} {S S1 S2 S3 : PW} (st : Nat → PW) (n : Nat) (t0 : Turns 51 0 zw 1 q S S1) (t1 : Turns 51 1 zw 1 q S1 S2) (h0 : st 0 = S2) (hn : S2.ks.length = n) (hst : ∀ j num, (S2.ks.map (·.1))[j]? = some num → Turns 23 num zw 1 q (st j) (st (j + 1))) (h3 : st n = S3) : Rnds zw q S S3 := fun W tag hT h =>
  wdo9_round 0 0 0 noStr hT h (Int.le_refl 1) (fun X l => by
    have := wround26 st (hT.below l.size) (h.later l) t0 t1 h0 hst
    rw [hn, h3] at this
    exact this)
theorem num_is {a num : Int} (h : some a = some num) : num = a := (Option.some.inj h).symm
theorem rnd1 (zw : Nat) (q : Wz) : Rnds zw q (Sx 0 (-1) 0 [] 0 []) (Sx 0 (0) 0 [] 2 []) :=
  rnd_of (S1 := Sx 0 (-1) 0 [] 1 [(1, 1, H0)]) (S2 := Sx 0 (-1) 0 [] 2 [(1, 1, H0), (2, 0, (H1 []))]) (fun j => [Sx 0 (-1) 0 [] 2 [(1, 1, H0), (2, 0, (H1 []))], Sx 0 (-1) 0 [] 2 [(2, 0, (H1 []))], Sx 0 (0) 0 [] 2 []].getD j (Sx 0 (0) 0 [] 2 [])) 2
    (tick0 (by decide) (by decide) (by kernel_rfl)) (tick1 (by decide) (by decide) trivial (by decide) (by kernel_rfl)) rfl rfl
    (fun j num h => match j, h with
      | 0, h => by
        rw [num_is (a := 1) h]
        exact del_h1 (by decide) (by decide) (by kernel_rfl) (by kernel_rfl) (by kernel_rfl)
      | 1, h => by
        rw [num_is (a := 2) h]
        exact del_h0 (cs := []) (by decide) (by decide) (by decide) (by decide) (by decide) (by decide) (by decide) (by decide) (by kernel_rfl) (by kernel_rfl) (by kernel_rfl)
      | j + 2, h => nomatch (show (none : Option Int) = some num from h)) rfl
theorem rnd2 (zw : Nat) (q : Wz) : Rnds zw q (Sx 0 (0) 0 [] 2 []) (Sx 0 (0) 2000 [c0] 6 [(6, 0, AK)]) :=
  rnd_of (S1 := Sx 0 (0) 0 [] 4 [(3, 1, H0), (4, 1, (SH 0))]) (S2 := Sx 0 (0) 0 [] 5 [(3, 1, H0), (4, 1, (SH 0)), (5, 0, (H1 []))]) (fun j => [Sx 0 (0) 0 [] 5 [(3, 1, H0), (4, 1, (SH 0)), (5, 0, (H1 []))], Sx 0 (0) 0 [] 5 [(4, 1, (SH 0)), (5, 0, (H1 []))], Sx 0 (0) 2000 [c0] 6 [(5, 0, (H1 [])), (6, 0, AK)], Sx 0 (0) 2000 [c0] 6 [(6, 0, AK)]].getD j (Sx 0 (0) 2000 [c0] 6 [(6, 0, AK)])) 3
    (tick0 (by decide) (by decide) (by kernel_rfl)) (tick1 (by decide) (by decide) trivial (by decide) (by kernel_rfl)) rfl rfl
    (fun j num h => match j, h with
      | 0, h => by
        rw [num_is (a := 3) h]
        exact del_h1 (by decide) (by decide) (by kernel_rfl) (by kernel_rfl) (by kernel_rfl)
      | 1, h => by
        rw [num_is (a := 4) h]
        exact del_sh (fr := 1) (pv := 0) (cl := [c0]) (tk := [c0]) (by decide) (by decide) (by decide) (by decide) (by decide) (by decide) c0_one (by decide) (by decide) (show One 0 [] from trivial) (by kernel_rfl) c0_one (by decide) rfl (by decide) (by kernel_rfl) (by kernel_rfl) (by kernel_rfl)
      | 2, h => by
        rw [num_is (a := 5) h]
        exact del_h0 (cs := []) (by decide) (by decide) (by decide) (by decide) (by decide) (by decide) (by decide) (by decide) (by kernel_rfl) (by kernel_rfl) (by kernel_rfl)
      | j + 3, h => nomatch (show (none : Option Int) = some num from h)) rfl
theorem rnd3 (zw : Nat) (q : Wz) : Rnds zw q (Sx 0 (0) 2000 [c0] 6 [(6, 0, AK)]) (Sx 1 (1) 4000 [c0] 10 [(10, 0, AK)]) :=
  rnd_of (S1 := Sx 0 (0) 2000 [c0] 8 [(6, 0, AK), (7, 1, H0), (8, 1, (SH 0))]) (S2 := Sx 0 (0) 2000 [c0] 9 [(6, 0, AK), (7, 1, H0), (8, 1, (SH 0)), (9, 0, (H1 [c0]))]) (fun j => [Sx 0 (0) 2000 [c0] 9 [(6, 0, AK), (7, 1, H0), (8, 1, (SH 0)), (9, 0, (H1 [c0]))], Sx 1 (1) 2000 [c0] 9 [(7, 1, H0), (8, 1, (SH 0)), (9, 0, (H1 [c0]))], Sx 1 (1) 2000 [c0] 9 [(8, 1, (SH 0)), (9, 0, (H1 [c0]))], Sx 1 (1) 4000 [c0] 10 [(9, 0, (H1 [c0])), (10, 0, AK)], Sx 1 (1) 4000 [c0] 10 [(10, 0, AK)]].getD j (Sx 1 (1) 4000 [c0] 10 [(10, 0, AK)])) 4
    (tick0 (by decide) (by decide) (by kernel_rfl)) (tick1 (by decide) (by decide) c0_one (by decide) (by kernel_rfl)) rfl rfl
    (fun j num h => match j, h with
      | 0, h => by
        rw [num_is (a := 6) h]
        exact del_ak (by decide) (by decide) (by decide) (by decide) (by decide) (by decide) (by kernel_rfl) (by kernel_rfl) (by kernel_rfl)
      | 1, h => by
        rw [num_is (a := 7) h]
        exact del_h1 (by decide) (by decide) (by kernel_rfl) (by kernel_rfl) (by kernel_rfl)
      | 2, h => by
        rw [num_is (a := 8) h]
        exact del_sh (fr := 1) (pv := 0) (cl := [c0]) (tk := []) (by decide) (by decide) (by decide) (by decide) (by decide) (by decide) c0_one (by decide) (by decide) c0_one (by kernel_rfl) c0_one (by decide) rfl (by decide) (by kernel_rfl) (by kernel_rfl) (by kernel_rfl)
      | 3, h => by
        rw [num_is (a := 9) h]
        exact del_h0 (cs := [c0]) (by decide) (by decide) (by decide) (by decide) (by decide) (by decide) (by decide) (by decide) (by kernel_rfl) (by kernel_rfl) (by kernel_rfl)
      | j + 4, h => nomatch (show (none : Option Int) = some num from h)) rfl
theorem rnd4 (zw : Nat) (q : Wz) : Rnds zw q (Sx 1 (1) 4000 [c0] 10 [(10, 0, AK)]) (Sx 1 (1) 6000 [c0] 14 [(14, 0, AK)]) :=
  rnd_of (S1 := Sx 1 (1) 4000 [c0] 12 [(10, 0, AK), (11, 1, H0), (12, 1, (SH 1))]) (S2 := Sx 1 (1) 4000 [c0] 13 [(10, 0, AK), (11, 1, H0), (12, 1, (SH 1)), (13, 0, (H1 [c0]))]) (fun j => [Sx 1 (1) 4000 [c0] 13 [(10, 0, AK), (11, 1, H0), (12, 1, (SH 1)), (13, 0, (H1 [c0]))], Sx 1 (1) 4000 [c0] 13 [(11, 1, H0), (12, 1, (SH 1)), (13, 0, (H1 [c0]))], Sx 1 (1) 4000 [c0] 13 [(12, 1, (SH 1)), (13, 0, (H1 [c0]))], Sx 1 (1) 6000 [c0] 14 [(13, 0, (H1 [c0])), (14, 0, AK)], Sx 1 (1) 6000 [c0] 14 [(14, 0, AK)]].getD j (Sx 1 (1) 6000 [c0] 14 [(14, 0, AK)])) 4
    (tick0 (by decide) (by decide) (by kernel_rfl)) (tick1 (by decide) (by decide) c0_one (by decide) (by kernel_rfl)) rfl rfl
    (fun j num h => match j, h with
      | 0, h => by
        rw [num_is (a := 10) h]
        exact del_ak (by decide) (by decide) (by decide) (by decide) (by decide) (by decide) (by kernel_rfl) (by kernel_rfl) (by kernel_rfl)
      | 1, h => by
        rw [num_is (a := 11) h]
        exact del_h1 (by decide) (by decide) (by kernel_rfl) (by kernel_rfl) (by kernel_rfl)
      | 2, h => by
        rw [num_is (a := 12) h]
        exact del_sh (fr := 2) (pv := 1) (cl := []) (tk := []) (by decide) (by decide) (by decide) (by decide) (by decide) (by decide) (show One 1 [] from trivial) (by decide) (by decide) c0_one (by kernel_rfl) c0_one (by decide) rfl (by decide) (by kernel_rfl) (by kernel_rfl) (by kernel_rfl)
      | 3, h => by
        rw [num_is (a := 13) h]
        exact del_h0 (cs := [c0]) (by decide) (by decide) (by decide) (by decide) (by decide) (by decide) (by decide) (by decide) (by kernel_rfl) (by kernel_rfl) (by kernel_rfl)
      | j + 4, h => nomatch (show (none : Option Int) = some num from h)) rfl
end Go.Proofs.YtbpnbcjgkbpmgaaGreat
namespace Go.Proofs.YtbpnbcjgkbpmgaaGreat
open Go.RowKit Go.Lg Go.Shelf Ds St
set_option linter.unusedVariables false
set_option linter.unusedSimpArgs false
theorem field34_0 (a b c d e : Value) (w : World) : Sem.run Tryz.prog (Instr.field 34 (.agg #[a, b, c, d, e]) 0) w = .ok a w := by kernel_rfl
theorem field34_1 (a b c d e : Value) (w : World) : Sem.run Tryz.prog (Instr.field 34 (.agg #[a, b, c, d, e]) 1) w = .ok b w := by kernel_rfl
attribute [local go_sem] field34_0 field34_1
theorem bk_k : bk [⟨true, { data := #[107] }, { data := #[] }⟩] = 0 := by decide
abbrev tag0 : Nat → Nat := fun _ => 0
theorem tidy0 (w : World) : Tidy w tag0 := fun _ _ => rfl
theorem turn0 {w w' : World} {tg : Nat → Nat} (h : Turn Wp w tag0 w' tg) : Below w.heap.size w w' :=
  ⟨h.md.os, h.md.tape, h.md.output, h.size, fun k hk => h.keep hk wp_0⟩
theorem AS.more {w : World} {B B' n : Nat} {A : Option Addr} {l : List Am} (h : AS w B A n l) (hb : B ≤ B') : AS w B' A n l := ⟨h.1.more hb, h.2.1, fun x hx => by
  have := h.2.2 x hx
  exact ⟨this.rd.more hb, this.le, this.max, this.key⟩⟩
theorem am_ro {W : World} {B : Nat} {tg : Nat → Nat} {x : Am} (h : x.ok W B) (ht : ∀ k, k < B → tg k = 0) : Ro W (Ow tg 0) x.A x.k x.c (opc x.os) := ⟨RdF.of_rd h.rd.1 (fun k hk => ht k hk), h.le, h.max⟩
set_option maxHeartbeats 4000000 in
set_option maxRecDepth 100000 in
theorem answers3 {w : World} (x : Int) (A : Option Addr) (n c : Nat) (l : List Am) (h : AS w w.heap.size A n l) (hn : n ≤ 9223372036854775807) (hal : Calls Tryz.prog 6 #[] w fun e w' => e = .returned (.bool true) ∧ Below w.heap.size w w') :
    Calls Tryz.prog 3 #[.int .i64 x, .slice A n c] w fun e w' => e = .returned (.bool true) ∧ Below w.heap.size w w' := by
  have HA := hid h
  clear h
  go_enter Tryz.func3, Tryz.ntmps3
  go_wp2_with (first
    | (go_at_call 6; (with_reducible refine hal.mono ?_); rintro e1 w1 ⟨rfl, hb1⟩; have HB1 := hid hb1; clear hb1)
    | (go_at_call 7; refine stop_ (fun Ps hPs => ?_)))
  refine hPs ?_
  clear hPs Ps hal
  refine (made7 (tag := tag0) (tidy0 w1) x).mono ?_
  rintro e2 w2 ⟨zw, most, rfl, m1, m2, tg, q, ht, hw⟩
  have hb2 : Below w.heap.size w w2 := bl_trans HB1.out (turn0 ht) HB1.out.size
  have hti : Turn Wp w tag0 w2 tg := ⟨(Mod.of_below HB1.out).trans ht.md fun i hi => absurd hi wp_0, fun k hk => ht.old k (Nat.lt_of_lt_of_le hk HB1.out.size), fun k hk => by
    rcases Nat.lt_or_ge k w1.heap.size with hl | hl
    · exact .inl (ht.old k hl)
    · exact ht.new k hl, ht.td⟩
  have hI : Iv most 0 ⟨⟨p1, [], 0, -1, 0⟩, ⟨p2, [], 0, -1, 0⟩, 0, []⟩ := ⟨rfl, trivial, rfl, rfl, by simp; omega, by simp, rfl, rfl, rfl, by simp, by simp⟩
  have hsm := small8 A n c l w2 ((HA.out.below hb2).more hb2.size) hn
  have HT := hid hti
  have HW := hid hw
  have HI := hid hI
  have HB := hid hb2
  clear hti hw hI hb2 ht HB1
  by_cases hs : SmallA l
  case neg =>
    rw [decide_eq_false hs] at hsm
    go_wp2_with (go_at_call 8; (with_reducible refine hsm.mono ?_); rintro e1 w3 ⟨rfl, rfl⟩)
    go_ret
    exact ⟨rfl, HB.out⟩
  case pos =>
    rw [decide_eq_true hs] at hsm
    have hl120 : n ≤ 120 := by have := HA.out.2.1; have := hs.2; omega
    go_wp2_with (go_at_call 8; (with_reducible refine hsm.mono ?_); rintro e1 w3 ⟨rfl, rfl⟩)
    clear hsm hs
    go_loopg [7, 8] n (fun g v7 v8 wr => ∃ (i m : Nat) (S : PW) (tg : Nat → Nat), i ≤ n ∧ g = n - i ∧ v8 = .int .i64 i ∧ v7 = .int .i64 m ∧ Hid (Turn Wp w tag0 wr tg) ∧ Hid (WMp wr tg zw most q S) ∧ Hid (Iv most i S) ∧ Hid (S.s0.cs.length = m))
    case atStart => exact ⟨0, 0, _, tg, by omega, rfl, rfl, rfl, HT, HW, HI, hid rfl⟩
    case round =>
      obtain ⟨i, m, S, tgi, hi, rfl, rfl, rfl, HTi, HWi, HIi, HM⟩ := hrel
      clear HT HW HI HB
      have HB := hid (turn0 HTi.out)
      by_cases hlt : i < n
      · have hki : (i : Int) < (n : Int) := by omega
        obtain ⟨b, off, a, hAe, hb, hx, hok, c0, c1, c2, c3, c4, c5⟩ := (HA.out.below HB.out).at_ hlt
        subst hAe
        have HOK := hid (And.intro hb (And.intro hx hok))
        clear hx hok
        obtain ⟨kind, nd, nn, tt, key, Ao, k, c', os⟩ := a
        simp only at c0 c1 c2 c3 c4 c5
        obtain ⟨W1, hW1⟩ : ∃ W1, W1 = wr.alloc (.cells (actc kind nd nn tt key Ao k c') 30) := ⟨_, rfl⟩
        go_upto_region 11 with fail
        rw [← hW1]
        have lW1 : Lat wr W1 := by rw [hW1]; exact (Lat.refl wr).alloc _
        have k9 : Blk W1 wr.heap.size 30 (actc kind nd nn tt key Ao k c') := by rw [hW1]; exact Blk.new _ _ _
        clear hW1 c0 c1 c2 c3 c4 c5
        obtain ⟨c0, c1, c2, c3, c4, c5⟩ := actcells k9
        have f1 : W1.frozen? ⟨wr.heap.size, 1, none⟩ = false := k9.frozen 1
        have HL1 := hid lW1
        have HK9 := hid k9
        clear lW1 k9
        by_cases hk1 : kind = 1
        · subst hk1
          have l2 : Lat wr (W1.setCell ⟨wr.heap.size, 1, none⟩ (.int .i64 0)) := Lat.setc (Nat.le_refl _) HL1.out _
          have k9b : Blk (W1.setCell ⟨wr.heap.size, 1, none⟩ (.int .i64 0)) wr.heap.size 30 (actc 1 0 nn tt key Ao k c') := HK9.out.set_ 1 _
          obtain ⟨e0, e1, e2, e3, e4, e5⟩ := actcells k9b
          have HL2 := hid l2
          have HK2 := hid k9b
          have hro : Ro (W1.setCell ⟨wr.heap.size, 1, none⟩ (.int .i64 0)) (Ow tgi 0) Ao k c' (opc os) := am_ro (x := ⟨1, nd, nn, tt, key, Ao, k, c', os⟩) (HOK.out.2.2.below (l2.b.mono HB.out.size)) fun j hj => HTi.out.old j hj
          have HRO := hid hro
          clear l2 k9b hro
          go_wp2_with (go_at_call 9; refine stop_ (fun Ps hPs => ?_))
          refine hPs ?_
          clear hPs Ps
          refine (do_commit (k := i) (HTi.out.td.below HL2.out.size) (HWi.out.later HL2.out) HIi.out (by omega) m1 m2 nn tt key HRO.out HOK.out.2.2.rd.2).mono ?_
          rintro e3 w3 ⟨er, nr, sv, tb, N, S', ⟨her, hnr, hS'⟩, v, nx, xs, tg3, rfl, ht3, hw3, hs3, hn3, h13⟩
          obtain ⟨A3, cx3, hv3, _⟩ := hs3.slice_
          subst hv3
          have hx9 : tgi wr.heap.size = 0 := HTi.out.td _ (Nat.le_refl _)
          have k93 : Blk w3 wr.heap.size 30 (actc 1 0 nn tt key Ao k c') := ht3.blk HK2.out (by rw [hx9]; exact wp_0)
          obtain ⟨W4, hW4⟩ : ∃ W4, W4 = w3.alloc (.cells #[.int .i64 er, .int .i64 nr, .string sv, .bool tb, .slice A3 nx cx3] 34) := ⟨_, rfl⟩
          have l4 : Lat w3 W4 := by rw [hW4]; exact (Lat.refl w3).alloc _
          have k10 : Blk W4 w3.heap.size 34 #[.int .i64 er, .int .i64 nr, .string sv, .bool tb, .slice A3 nx cx3] := by rw [hW4]; exact Blk.new _ _ _
          have k94 := l4.blk k93
          have HT3 := hid (((HTi.out.lat HL2.out).trans ht3).lat l4)
          have HW3 := hid (hw3.later l4)
          have hI3 := HIi.out.after (os := os) m1 m2
          rw [← hS'] at hI3
          have HI3 := hid hI3
          have hcs := HIi.out.commit (os := os) m1
          rw [← her, ← hnr] at hcs
          have hs0 : S'.s0 = cmS os S.s0 most := by rw [hS']
          rw [← hs0] at hcs
          have HM3 := HM.out
          have hosl : os.length = k := HOK.out.2.2.rd.2
          have hl0 := HIi.out.l0
          clear ht3 hw3 hI3 hs3 hn3 h13 c0 c1 c2 c3 c4 c5 f1 e0 e1 e2 e3 e4 e5 her hnr hS' hs0 k93 hx9
          go_upto_region 15 with fail
          rw [← hW4]
          clear hW4 l4
          obtain ⟨x0, x1, x2, x3, x4, x5⟩ := actcells k94
          obtain ⟨⟨y0, y1, y2, y3, y4⟩, _⟩ := didcells k10
          clear k94 k10
          rcases hcs with ⟨hbk, her, hc⟩ | ⟨hbk, hlt2, her, hnr, hc⟩ | ⟨hbk, hlt2, her, hc⟩
          · have HC := hid hc
            clear hc hbk hosl hl0 HM3
            by_cases hk0 : (k : Int) = 0
            all_goals rcases her with rfl | rfl
            all_goals
              go_wp2_with fail
              go_roundg (n - (i + 1))
              case measure => omega
              case rel => exact ⟨i + 1, m, S', tg3, by omega, rfl, by go_num, rfl, HT3, HW3, HI3, hid (by rw [HC.out]; exact HM.out)⟩
          · have hk0 : ¬(k : Int) = 0 := fun e => by
              unfold bk at hbk
              rw [if_pos (by omega)] at hbk
              cases hbk
            have hlm : (m : Int) < most := by omega
            have hne : ¬(m : Int) = most := by omega
            have hwm : wrap64 ((m : Int) + 1) = (m : Int) + 1 := by simp only [wrap64]; omega
            rw [HM3] at hnr
            have HC : Hid (S'.s0.cs.length = m + 1) := hid (by rw [hc]; simp; exact HM3)
            subst her hnr
            clear hc hbk hosl hl0 HM3 hlt2
            go_wp2_with fail
            all_goals
              go_roundg (n - (i + 1))
              case measure => omega
              case rel => exact ⟨i + 1, m + 1, S', tg3, by omega, rfl, by go_num, by go_num, HT3, HW3, HI3, HC⟩
          · have hk0 : ¬(k : Int) = 0 := fun e => by
              unfold bk at hbk
              rw [if_pos (by omega)] at hbk
              cases hbk
            have hmm : most = (m : Int) := by omega
            subst hmm
            have hlm : ¬(m : Int) < (m : Int) := by omega
            have HC : Hid (S'.s0.cs.length = m) := hid (by rw [hc]; exact HM3)
            subst her
            clear hc hbk hosl hl0 HM3 hlt2
            go_wp2_with fail
            all_goals
              go_roundg (n - (i + 1))
              case measure => omega
              case rel => exact ⟨i + 1, m, S', tg3, by omega, rfl, by go_num, rfl, HT3, HW3, HI3, HC⟩
        by_cases hk3 : kind = 3
        · subst hk3
          go_wp2_with (go_at_call 9; refine stop_ (fun Ps hPs => ?_))
          refine hPs ?_
          clear hPs Ps
          refine (do_tick (k := i) (HTi.out.td.below HL1.out.size) (HWi.out.later HL1.out) HIi.out (by omega) m1 m2 nd nn tt key).mono ?_
          rintro e3 w3 ⟨er, nr, sv, tb, N, S', ⟨hI3, hs0⟩, v, nx, xs, tg3, rfl, ht3, hw3, hs3, hn3, h13⟩
          have HT3 := hid ((HTi.out.lat HL1.out).trans ht3)
          have HW3 := hid hw3
          have HI3 := hid hI3
          have HM3 : Hid (S'.s0.cs.length = m) := hid (by rw [hs0]; exact HM.out)
          clear ht3 hw3 hI3 hs0 hs3 hn3 h13
          go_wp2_with fail
          go_roundg (n - (i + 1))
          case measure => omega
          case rel => exact ⟨i + 1, m, S', tg3, by omega, rfl, by go_num, rfl, HT3, HW3, HI3, HM3⟩
        by_cases hk2 : kind = 2
        · subst hk2
          go_wp2_with (go_at_call 9; refine stop_ (fun Ps hPs => ?_))
          refine hPs ?_
          clear hPs Ps
          refine (do_read (k := i) (HTi.out.td.below HL1.out.size) (HWi.out.later HL1.out) HIi.out (by omega) m1 nd nn tt key HOK.out.2.2.key).mono ?_
          rintro e3 w3 ⟨er, nr, sv, tb, N, S', ⟨hI3, hs0⟩, v, nx, xs, tg3, rfl, ht3, hw3, hs3, hn3, h13⟩
          have HT3 := hid ((HTi.out.lat HL1.out).trans ht3)
          have HW3 := hid hw3
          have HI3 := hid hI3
          have HM3 : Hid (S'.s0.cs.length = m) := hid (by rw [hs0]; exact HM.out)
          clear ht3 hw3 hI3 hs0 hs3 hn3 h13
          go_wp2_with fail
          go_roundg (n - (i + 1))
          case measure => omega
          case rel => exact ⟨i + 1, m, S', tg3, by omega, rfl, by go_num, rfl, HT3, HW3, HI3, HM3⟩
        by_cases hk8 : kind = 8
        · subst hk8
          go_wp2_with (go_at_call 9; refine stop_ (fun Ps hPs => ?_))
          refine hPs ?_
          clear hPs Ps
          refine (do_drop (k := i) (HTi.out.td.below HL1.out.size) (HWi.out.later HL1.out) HIi.out (by omega) m1 nd nn tt key).mono ?_
          rintro e3 w3 ⟨er, nr, sv, tb, N, S', ⟨hI3, hs0⟩, v, nx, xs, tg3, rfl, ht3, hw3, hs3, hn3, h13⟩
          have HT3 := hid ((HTi.out.lat HL1.out).trans ht3)
          have HW3 := hid hw3
          have HI3 := hid hI3
          have HM3 : Hid (S'.s0.cs.length = m) := hid (by rw [hs0]; exact HM.out)
          clear ht3 hw3 hI3 hs0 hs3 hn3 h13
          go_wp2_with fail
          go_roundg (n - (i + 1))
          case measure => omega
          case rel => exact ⟨i + 1, m, S', tg3, by omega, rfl, by go_num, rfl, HT3, HW3, HI3, HM3⟩
        by_cases hk7 : kind = 7
        · subst hk7
          go_wp2_with (go_at_call 9; refine stop_ (fun Ps hPs => ?_))
          refine hPs ?_
          clear hPs Ps
          refine (do_twice (k := i) (HTi.out.td.below HL1.out.size) (HWi.out.later HL1.out) HIi.out (by omega) m1 nd nn tt key).mono ?_
          rintro e3 w3 ⟨er, nr, sv, tb, N, S', ⟨hI3, hs0⟩, v, nx, xs, tg3, rfl, ht3, hw3, hs3, hn3, h13⟩
          have HT3 := hid ((HTi.out.lat HL1.out).trans ht3)
          have HW3 := hid hw3
          have HI3 := hid hI3
          have HM3 : Hid (S'.s0.cs.length = m) := hid (by rw [hs0]; exact HM.out)
          clear ht3 hw3 hI3 hs0 hs3 hn3 h13
          go_wp2_with fail
          go_roundg (n - (i + 1))
          case measure => omega
          case rel => exact ⟨i + 1, m, S', tg3, by omega, rfl, by go_num, rfl, HT3, HW3, HI3, HM3⟩
        have HT3 := hid (HTi.out.lat HL1.out)
        have HW3 := hid (HWi.out.later HL1.out)
        have HI3 := hid (HIi.out.next (last' := S.last) (ks' := S.ks) HIi.out.t0 (by omega))
        go_wp2_with fail
        go_roundg (n - (i + 1))
        case measure => omega
        case rel => exact ⟨i + 1, m, _, _, by omega, rfl, by go_num, rfl, HT3, HW3, HI3, HM⟩
      · obtain rfl : i = n := by omega
        have hki : ¬ (i : Int) < (i : Int) := by omega
        go_wp2_with fail
        go_loopg [7] (most.toNat - m) (fun g v7 wq => ∃ (j : Nat) (S : PW) (tg : Nat → Nat) (kk : Nat), (j : Int) ≤ most ∧ g = most.toNat - j ∧ v7 = .int .i64 j ∧ kk ≤ 120 + j ∧ Hid (Turn Wp w tag0 wq tg) ∧ Hid (WMp wq tg zw most q S) ∧ Hid (Iv most kk S) ∧ Hid (S.s0.cs.length = j))
        case atStart => exact ⟨m, S, tgi, i, by have := HIi.out.l0; have := HM.out; omega, rfl, rfl, by omega, HTi, HWi, HIi, HM⟩
        case round =>
          obtain ⟨j, S2, tgq, kk, hj, rfl, rfl, hkk, HTq, HWq, HIq, HMq⟩ := hrel
          clear HTi HWi HIi HM HB
          by_cases hjm : (j : Int) < most
          · have hwj : wrap64 ((j : Int) + 1) = (j : Int) + 1 := by simp only [wrap64]; omega
            go_wp2_with (first
              | (go_at_call 10; (with_reducible refine (put10 0 { data := #[107] } { data := #[] } wr).mono ?_); rintro e4 w4 ⟨A4, c4, rfl, hro4, hb4⟩; have HR4 := hid (And.intro hro4 hb4); clear hro4 hb4)
              | (go_at_call 9; refine stop_ (fun Ps hPs => ?_)))
            refine hPs ?_
            clear hPs Ps
            have l4 : Lat wr w4 := ⟨HR4.out.2⟩
            refine (do_commit (k := kk) (os := [⟨true, { data := #[107] }, { data := #[] }⟩]) (HTq.out.td.below l4.size) (HWq.out.later l4) HIq.out (by omega) m1 m2 0 0 noStr (HR4.out.1.to fun y hy => HTq.out.td y hy) rfl).mono ?_
            rintro e5 w5 ⟨er, nr, sv, tb, N, S', ⟨her, hnr, hS'⟩, v, nx, xs, tg3, rfl, ht3, hw3, hs3, hn3, h13⟩
            have HT3 := hid ((HTq.out.lat l4).trans ht3)
            have HW3 := hid hw3
            have hI3 := HIq.out.after (os := [⟨true, { data := #[107] }, { data := #[] }⟩]) m1 m2
            rw [← hS'] at hI3
            have HI3 := hid hI3
            have hcs := HIq.out.commit (os := [⟨true, { data := #[107] }, { data := #[] }⟩]) m1
            rw [← her, ← hnr] at hcs
            have hs0 : S'.s0 = cmS [⟨true, { data := #[107] }, { data := #[] }⟩] S2.s0 most := by rw [hS']
            rw [← hs0] at hcs
            have HM3 := HMq.out
            rcases hcs with ⟨hbk, _⟩ | ⟨hbk, hlt2, her2, hnr2, hc⟩ | ⟨hbk, hlt2, her2, hc⟩
            · exact absurd bk_k hbk
            · rw [HM3] at hnr2
              have HC : Hid (S'.s0.cs.length = j + 1) := hid (by rw [hc]; simp; exact HM3)
              subst hnr2
              clear her hnr hS' hI3 hs0 hlt2 her2 hc hbk ht3 hw3 hs3 hn3 h13 l4
              go_wp2_with fail
              go_roundg (most.toNat - (j + 1))
              case measure => omega
              case rel => exact ⟨j + 1, S', tg3, kk + 1, by omega, rfl, by go_num, by omega, HT3, HW3, HI3, HC⟩
            · omega
          · have hjm2 : ¬(j : Int) < most := hjm
            have HB := hid (turn0 HTq.out)
            go_wp2_with (first
              | (go_at_call 10; (with_reducible refine (put10 0 { data := #[107] } { data := #[] } wr).mono ?_); rintro e4 w4 ⟨A4, c4, rfl, hro4, hb4⟩; have HR4 := hid (And.intro hro4 hb4); clear hro4 hb4)
              | (go_at_call 9; refine stop_ (fun Ps hPs => ?_)))
            refine hPs ?_
            clear hPs Ps
            have l4 : Lat wr w4 := ⟨HR4.out.2⟩
            refine (do_commit (k := kk) (os := [⟨true, { data := #[107] }, { data := #[] }⟩]) (HTq.out.td.below l4.size) (HWq.out.later l4) HIq.out (by omega) m1 m2 0 0 noStr (HR4.out.1.to fun y hy => HTq.out.td y hy) rfl).mono ?_
            rintro e5 w5 ⟨er, nr, sv, tb, N, S', ⟨her, hnr, hS'⟩, v, nx, xs, tg3, rfl, ht3, hw3, hs3, hn3, h13⟩
            have HT3 := hid ((HTq.out.lat l4).trans ht3)
            have HW3 := hid hw3
            have hI3 := HIq.out.after (os := [⟨true, { data := #[107] }, { data := #[] }⟩]) m1 m2
            rw [← hS'] at hI3
            have HI3 := hid hI3
            have hcs := HIq.out.commit (os := [⟨true, { data := #[107] }, { data := #[] }⟩]) m1
            rw [← her, ← hnr] at hcs
            have hs0 : S'.s0 = cmS [⟨true, { data := #[107] }, { data := #[] }⟩] S2.s0 most := by rw [hS']
            rw [← hs0] at hcs
            have HM3 := HMq.out
            rcases hcs with ⟨hbk, _⟩ | ⟨hbk, hlt2, her2, hnr2, hc⟩ | ⟨hbk, hlt2, her2, hc⟩
            · exact absurd bk_k hbk
            · omega
            · subst her2
              have HB5 := hid (turn0 HT3.out)
              clear hnr hS' hI3 hs0 hlt2 hc hbk ht3 hw3 hs3 hn3 h13 l4
              go_wp2_with fail
              go_ret
              exact ⟨rfl, HB5.out⟩
end Go.Proofs.YtbpnbcjgkbpmgaaGreat
namespace Go.Proofs.YtbpnbcjgkbpmgaaGreat
open Go.RowKit Go.Lg Go.Shelf Ds St
set_option linter.unusedVariables false
set_option linter.unusedSimpArgs false
abbrev RR0 : PW := Sx 0 (-1) 0 [] 0 []
abbrev RR1 : PW := Sx 0 0 0 [] 2 []
abbrev RR2 : PW := Sx 0 0 2000 [c0] 6 [(6, 0, AK)]
abbrev RR3 : PW := Sx 1 1 4000 [c0] 10 [(10, 0, AK)]
abbrev RR4 : PW := Sx 1 1 6000 [c0] 14 [(14, 0, AK)]
def Rj (j : Nat) : PW := if j = 0 then RR0 else if j = 1 then RR1 else if j = 2 then RR2 else if j = 3 then RR3 else RR4
theorem rj_next (zw : Nat) (q : Wz) (j : Nat) (h : j < 4) : Rnds zw q (Rj j) (Rj (j + 1)) := by
  rcases (show j = 0 ∨ j = 1 ∨ j = 2 ∨ j = 3 by omega) with rfl | rfl | rfl | rfl
  · exact rnd1 zw q
  · exact rnd2 zw q
  · exact rnd3 zw q
  · exact rnd4 zw q
abbrev opA : Op3 := ⟨true, { data := #[97] }, { data := #[49] }⟩
abbrev opB : Op3 := ⟨true, { data := #[98] }, { data := #[50] }⟩
section
variable {w : World} {tag : Nat → Nat} {zw : Nat} {q : Wz} {A : Option Addr} {c : Nat}
theorem com_a (hT : Tidy w tag) (h : WM w tag zw 1 q ⟨p1, [], 0, -1, 0⟩ ⟨p2, [], 0, -1, 0⟩ 0 []) (ho : Ro w (Ow tag 0) A 1 c (opc [opA])) :
    Calls Tryz.prog 9 #[P zw, .agg (actc 1 0 0 0 noStr A 1 c)] w (ADid tag zw 1 q 0 1 noStr false 0 ⟨p1, [c0], 0, -1, 2000⟩ ⟨p2, [], 0, -1, 0⟩ 0 [] w) :=
  wdo9_at1 0 (.inl rfl) 0 0 noStr hT h (Int.le_refl 1) (fun X l => wat28_commit 0 0 noStr (hT.below l.size) (h.later l) (fun Y l2 =>
    wcommit53 (os := [opA]) ((hT.below l.size).below l2.size) ((h.later l).later l2) 1 0 0 noStr (ho.later (l.trans l2).b) rfl rfl trivial (by decide) (by decide) (by decide) (by decide) (by decide) (by decide)))
theorem com_b (hT : Tidy w tag) (h : WM w tag zw 1 q ⟨p1, [c0], 0, -1, 2000⟩ ⟨p2, [], 0, -1, 0⟩ 0 []) (ho : Ro w (Ow tag 0) A 1 c (opc [opB])) :
    Calls Tryz.prog 9 #[P zw, .agg (actc 1 0 0 0 noStr A 1 c)] w (ADid tag zw 1 q 8 0 noStr false 0 ⟨p1, [c0], 0, -1, 4000⟩ ⟨p2, [], 0, -1, 0⟩ 0 [] w) :=
  wdo9_at1 0 (.inl rfl) 0 0 noStr hT h (Int.le_refl 1) (fun X l => wat28_commit 0 0 noStr (hT.below l.size) (h.later l) (fun Y l2 =>
    wcommit53 (os := [opB]) ((hT.below l.size).below l2.size) ((h.later l).later l2) 1 0 0 noStr (ho.later (l.trans l2).b) rfl rfl c0_one (by decide) (by decide) (by decide) (by decide) (by decide) (by decide)))
theorem read_a (hT : Tidy w tag) (h : WMp w tag zw 1 q RR4) :
    Calls Tryz.prog 9 #[P zw, .agg (actc 2 1 0 0 { data := #[97] } none 0 0)] w (ADid tag zw 1 q 0 0 { data := #[49] } true 0 RR4.s0 RR4.s1 RR4.last RR4.ks w) := by
  have hr : told (tabOf [c0] (kb { data := #[97] })) = ({ data := #[49] }, true) := by kernel_rfl
  refine wdo9_at2 1 (.inr rfl) 0 0 _ hT h (Int.le_refl 1) (fun X l => wat28_read1 (rs := ({ data := #[49] }, true)) 0 0 _ (hT.below l.size) (h.later l) (fun Y l2 => ?_))
  have := ndread54 (ro := 2) ((h.later l).later l2).m1' (.inr rfl) { data := #[97] } (by decide)
  rw [show RR4.s1.cs = [c0] from rfl, hr] at this
  exact this
theorem prom_1 (hT : Tidy w tag) (h : WMp w tag zw 1 q RR4) :
    Calls Tryz.prog 9 #[P zw, .agg (actc 4 1 0 0 noStr none 0 0)] w (ADid tag zw 1 q 0 2 noStr false 0 RR4.s0 ⟨pN 1, [c0], 1, -1, 206000⟩ RR4.last RR4.ks w) := by
  refine wdo9_at4 1 (.inr rfl) 0 0 _ hT h (Int.le_refl 1) (fun X l => wat28_prom 0 0 _ (hT.below l.size) (h.later l) (fun Y l2 => ?_))
  exact (ndprom55 ((hT.below l.size).below l2.size) ((h.later l).later l2).m1' c0_one (by decide) (by decide)).mono fun e w' ⟨he, tag', ht, hn⟩ => ⟨he, tag', ht.more fun i hi => pr_w (.inr rfl) hi, ((h.later l).later l2).site1 (s1' := ⟨pN 1, [c0], 1, -1, 206000⟩) ht hn⟩
end
theorem log_1 : (wscan (logB [c0])).1.length = 1 := by kernel_rfl
end Go.Proofs.YtbpnbcjgkbpmgaaGreat
