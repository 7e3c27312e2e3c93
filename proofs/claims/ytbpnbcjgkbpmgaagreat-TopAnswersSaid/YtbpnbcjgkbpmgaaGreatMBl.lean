/- A primary answers without waiting for the other site, as many times as its leash allows: of any acts. No condition. (part 38) -/
import Derived.Lib.SlBytesConst
import Derived.Lib.SmallJoins
import Derived.Test.YtbpnbcjgkbpmgaaGreatMAc
import Derived.Test.YtbpnbcjgkbpmgaaGreatMBh
import Derived.Test.YtbpnbcjgkbpmgaaGreatMBi
import Derived.Test.YtbpnbcjgkbpmgaaGreatMBk
namespace Go.Proofs.YtbpnbcjgkbpmgaaGreat.Lk
open Go.RowKit Go.Lg
variable {F : Nat → Prop}
set_option linter.unusedVariables false
set_option linter.unusedSimpArgs false
def Reads (w : World) (l : List Lt) : Prop := ∀ x ∈ l, ∃ A c, x.v = .slice A x.b.length c ∧ Rd w w.heap.size 1 A x.b.length (bts x.b) ∧ x.b.length ≤ 1000000000
theorem Reads.drewN {w : World} {l : List Lt} (h : Reads w l) (d : Nat) : Reads (w.drewN d) l := h
theorem Own1.reads {B : Nat} {w : World} {x : Lt} (h : Own1 B w x) : ∃ A c, x.v = .slice A x.b.length c ∧ Rd w w.heap.size 1 A x.b.length (bts x.b) ∧ x.b.length ≤ 1000000000 := by
  obtain ⟨A, c, e, _, _⟩ := owned_slice h.own
  have h9 := h.own
  rw [e] at h9
  exact ⟨A, c, e, Rd.of_own h9, h.le⟩
end Go.Proofs.YtbpnbcjgkbpmgaaGreat.Lk
namespace Go.Proofs.YtbpnbcjgkbpmgaaGreat.Lk
open Go.RowKit Go.Lg
variable {F : Nat → Prop}
set_option linter.unusedVariables false
set_option linter.unusedSimpArgs false
theorem LX.low {rf : Bool} {w w' : World} {B z : Nat} {last : Int} {sv : Value} {ls : List Lt} (h : LX F rf w B z last sv ls) (hT : Two z sv.ownBlock w w') : Below B w w' := hT.below h.leB h.hB (fun g hg => (h.own.lt g hg).1)
end Go.Proofs.YtbpnbcjgkbpmgaaGreat.Lk
namespace Go.Proofs.YtbpnbcjgkbpmgaaGreat
open Go.RowKit Go.Lg Ds
set_option linter.unusedVariables false
set_option linter.unusedSimpArgs false
theorem own_blk {w w' : World} {base : Nat} {e : TypeId} {sz n : Nat} {v : Value} {xs : List Value} (h : w.ownsRow base e sz v n xs) (hb : ∀ g, v.ownBlock = some g → w'.heap[g]? = w.heap[g]?) : w'.ownsRow base e sz v n xs := by
  refine ⟨h.1, ?_⟩
  rcases h.2 with h0 | ⟨g, cap, cur, rfl, h1, h2, h3⟩
  · exact .inl h0
  · exact .inr ⟨g, cap, cur, rfl, h1, (hb g rfl).trans h2, h3⟩
inductive LK (w : World) (tag : Nat → Nat) (i z : Nat) (last : Int) (ks : List Lk.Key) : Prop
  | mk (sv : Value) (ls : List Lk.Lt) (h : Lk.LX (fun k => k < w.heap.size ∧ tag k ≠ i) false w 0 z last sv ls) (hz : tag z = i) (hs : ∀ g, sv.ownBlock = some g → tag g = i) (hk : ls.map Lk.Lt.k = ks)
section
variable {w w' : World} {tag tag' : Nat → Nat} {i z : Nat} {last last' : Int} {ks ks' : List Lk.Key} {I : Nat → Prop}
theorem LK.mv (h : LK w tag i z last ks) (hs : w.heap.size ≤ w'.heap.size) (m : Mv w w' (Ow tag i) (Ow tag' i)) : LK w' tag' i z last ks := by
  obtain ⟨sv, ls, hx, hz, hv, hk⟩ := h
  have hzl := hx.blk.lt
  refine ⟨sv, ls, ⟨hx.hB, (m z hzl hz).2.trans hx.blk, own_blk hx.own fun g hg => (m g (hx.own.lt g hg).2 (hv g hg)).2, hx.le, fun x hxm => ?_, fun g hg => hg.1, fun x hxm g hg hF => ?_⟩, (m z hzl hz).1, fun g hg => (m g (hx.own.lt g hg).2 (hv g hg)).1, hk⟩
  · have h1 := hx.by_ x hxm
    exact h1.keep (own_blk h1.own fun g hg => (m g (h1.own.lt g hg).2 (Decidable.byContradiction fun hne => hx.neF x hxm g hg ⟨(h1.own.lt g hg).2, hne⟩)).2)
  · have h1 := hx.by_ x hxm
    exact hF.2 (m g (h1.own.lt g hg).2 (Decidable.byContradiction fun hne => hx.neF x hxm g hg ⟨(h1.own.lt g hg).2, hne⟩)).1
theorem LK.later (h : LK w tag i z last ks) (l : Below w.heap.size w w') : LK w' tag i z last ks := h.mv l.size (bmv l _)
theorem LK.turn (h : LK w tag i z last ks) (t : Turn I w tag w' tag') (hi : ¬I i) : LK w' tag' i z last ks := h.mv t.size (t.mv hi)
theorem LK.lt (h : LK w tag i z last ks) : z < w.heap.size ∧ tag z = i := by obtain ⟨sv, ls, hx, hz, _⟩ := h; exact ⟨hx.blk.lt, hz⟩
theorem LK.len (h : LK w tag i z last ks) : ks.length ≤ 512 := by obtain ⟨sv, ls, hx, hz, _, rfl⟩ := h; simpa using hx.le
theorem left_turn {sv : Value} {ls : List Lk.Lt} (hT : Tidy w tag) (hx : Lk.LX (fun k => k < w.heap.size ∧ tag k ≠ i) false w 0 z last sv ls) (hz : tag z = i) (hs : ∀ g, sv.ownBlock = some g → tag g = i) (h : Lk.Left (fun k => k < w.heap.size ∧ tag k ≠ i) false 0 z sv last' ks' w w') :
    ∃ tag', Turn (fun k => k = i) w tag w' tag' ∧ LK w' tag' i z last' ks' := by
  obtain ⟨sv', ls', hk, hx', hT2, hat⟩ := h
  have hsz := hT2.size
  have hsub : Sub w (Ow tag i) (fun k => tag k = i ∨ w.heap.size ≤ k) := fun k hk => hk
  have ht : Turn (fun k => k = i) w tag w' (tgF w w' tag i (fun k => tag k = i ∨ w.heap.size ≤ k)) := turn_of hT ⟨hT2.os, hT2.tape, hT2.output, hsz, fun k hk hn => hT2.block k hk (fun e => hn (by rw [e]; exact hz)) (fun e => hn (hs k e.symm))⟩ hsub rfl
  have hnew : ∀ k, w.heap.size ≤ k → k < w'.heap.size → tgF w w' tag i (fun k => tag k = i ∨ w.heap.size ≤ k) k = i := fun k hk hk2 => by
    unfold tgF
    rw [if_neg (by omega), if_pos ⟨.inr hk, hk2⟩]
  have hold : ∀ k, k < w'.heap.size → (k < w.heap.size → tag k = i) → tgF w w' tag i (fun k => tag k = i ∨ w.heap.size ≤ k) k = i := fun k hk hk2 => by
    rcases Nat.lt_or_ge k w.heap.size with hl | hl
    · rw [ht.old k hl]; exact hk2 hl
    · exact hnew k hl hk
  refine ⟨_, ht, sv', ls', ⟨hx'.hB, hx'.blk, hx'.own, hx'.le, hx'.by_, fun g hg => hg.1, fun x hxm g hg hF => ?_⟩, hold z hx'.blk.lt fun _ => hz, fun g hg => hold g (hx'.own.lt g hg).2 fun hl => ?_, hk⟩
  · have h1 := hx'.by_ x hxm
    exact hF.2 (hold g (h1.own.lt g hg).2 fun hl => Decidable.byContradiction fun hne => hx'.neF x hxm g hg ⟨hl, hne⟩)
  · rcases hat g hg with h1 | h1
    · exact hs g h1
    · omega
end
def KSent (tag : Nat → Nat) (i z : Nat) (r e last' : Int) (ks' : List Lk.Key) (w : World) (en : Ending) (w' : World) : Prop :=
  en = .returned (.tuple #[.int .i64 r, .int .i64 e]) ∧ ∃ tag', Turn (fun k => k = i) w tag w' tag' ∧ LK w' tag' i z last' ks'
section
variable {w : World} {tag : Nat → Nat} {i z : Nat} {last : Int} {ks : List Lk.Key}
theorem ksend82 (hT : Tidy w tag) (h : LK w tag i z last ks) (h0 : 0 ≤ last) (h1 : last ≤ 4611686018427387904) (to : Int) (A : Option Addr) (n c : Nat) (b : List UInt8) (hr : Rd w w.heap.size 1 A n (bts b)) (h40 : b.length ≤ 1000000000) :
    Calls Tryz.prog 82 #[P z, .int .i64 to, .slice A n c] w (KSent tag i z (Lk.sR last to ks) (Lk.sE to ks) (Lk.sL last to ks) (Lk.sK last to b ks) w) := by
  obtain ⟨sv, ls, hx, hz, hs, rfl⟩ := h
  exact (Lk.send10 hx h0 h1 to A n c b hr h40).mono fun e w' ⟨he, hl⟩ => ⟨he, left_turn hT hx hz hs hl⟩
theorem ktwice24 (hT : Tidy w tag) (h : LK w tag i z last ks) (h0 : 0 ≤ last) (h1 : last ≤ 4611686018427387904) (n : Int) :
    Calls Tryz.prog 24 #[P z, .int .i64 n] w (KSent tag i z (Lk.tR last n ks) (Lk.tE n ks) (Lk.tL last n ks) (Lk.tK last n ks) w) := by
  obtain ⟨sv, ls, hx, hz, hs, rfl⟩ := h
  exact (Lk.twice11 hx h0 h1 n).mono fun e w' ⟨he, hl⟩ => ⟨he, left_turn hT hx hz hs hl⟩
end
end Go.Proofs.YtbpnbcjgkbpmgaaGreat
namespace Go.Proofs.YtbpnbcjgkbpmgaaGreat
open Go.RowKit Go.Lg Ds St
set_option linter.unusedVariables false
set_option linter.unusedSimpArgs false
abbrev wdc (most : Int) (d0 n0 d1 n1 lz : Nat) (vA : Value) : Array Value := #[.int .i64 most, P d0, P n0, P d1, P n1, P lz, vA]
theorem wdcells {w : World} {zw d0 n0 d1 n1 lz : Nat} {most : Int} {vA : Value} (h : Blk w zw 71 (wdc most d0 n0 d1 n1 lz vA)) :
    w.cell? ⟨zw, 0, none⟩ = some (.int .i64 most) ∧ w.cell? ⟨zw, 1, none⟩ = some (P d0) ∧ w.cell? ⟨zw, 2, none⟩ = some (P n0) ∧ w.cell? ⟨zw, 3, none⟩ = some (P d1) ∧ w.cell? ⟨zw, 4, none⟩ = some (P n1) ∧ w.cell? ⟨zw, 5, none⟩ = some (P lz) ∧ w.cell? ⟨zw, 6, none⟩ = some vA :=
  ⟨h.cell 0, h.cell 1, h.cell 2, h.cell 3, h.cell 4, h.cell 5, h.cell 6⟩
def pst (to : Int) (s : Int × List Lk.Key) (b : Bys) : Int × List Lk.Key := (Lk.sL s.1 to s.2, Lk.sK s.1 to b s.2)
def postL (to : Int) (bs : List Bys) (s : Int × List Lk.Key) : Int × List Lk.Key := bs.foldl (pst to) s
theorem postL_snoc {to : Int} {bs : List Bys} {s : Int × List Lk.Key} {j : Nat} {b : Bys} (h : bs[j]? = some b) : postL to (bs.take (j + 1)) s = pst to (postL to (bs.take j) s) b := by
  unfold postL
  rw [List.take_add_one, h, List.foldl_append]
  rfl
theorem pst_le (to : Int) (s : Int × List Lk.Key) (b : Bys) : s.1 ≤ (pst to s b).1 ∧ (pst to s b).1 ≤ s.1 + 1 := by
  simp only [pst, Lk.sL]
  split <;> omega
theorem postL_le (to : Int) : ∀ (bs : List Bys) (s : Int × List Lk.Key), s.1 ≤ (postL to bs s).1 ∧ (postL to bs s).1 ≤ s.1 + bs.length
  | [], s => by simp [postL]
  | b :: r, s => by
    have h1 := pst_le to s b
    have h2 := postL_le to r (pst to s b)
    have e : postL to (b :: r) s = postL to r (pst to s b) := rfl
    rw [e]
    simp only [List.length_cons]
    omega
abbrev Own0 (lo : Nat) (tag : Nat → Nat) : Fp := fun k => lo ≤ k ∧ tag k = 0
theorem Turn.mv0 {I : Nat → Prop} {w w' : World} {tag tag' : Nat → Nat} (h : Turn I w tag w' tag') (h0 : ¬I 0) (lo : Nat) : Mv w w' (Own0 lo tag) (Own0 lo tag') := fun k hk hg =>
  ⟨⟨hg.1, (h.old k hk).trans hg.2⟩, (h.mv h0 k hk hg.2).2⟩
set_option maxHeartbeats 4000000 in
set_option maxRecDepth 100000 in
theorem wpost46 {w : World} {tag : Nat → Nat} {zw d0 n0 d1 n1 lz : Nat} {most last : Int} {vA : Value} {ks : List Lk.Key} {A : Option Addr} {c : Nat} {bs : List Bys} (fr : Nat) (hfr : fr ≤ 1) (hT : Tidy w tag) (blk : Blk w zw 71 (wdc most d0 n0 d1 n1 lz vA)) (hz : tag zw = 23) (lk : LK w tag 21 lz last ks) (h0 : 0 ≤ last) (h1 : last ≤ 1000000000)
    (hbb : Bb w (Ow tag 0) (.slice A bs.length c) bs) (hbl : bs.length ≤ 10000) (hbm : ∀ b ∈ bs, b.length ≤ 1000000000) :
    Calls Tryz.prog 46 #[P zw, .int .i64 (fr : Int), .slice A bs.length c] w fun e w' => ∃ v n xs, e = .returned v ∧ ∃ tag', Turn (fun k => k = 21) w tag w' tag' ∧ LK w' tag' 21 lz (postL (1 - (fr : Int)) bs (last, ks)).1 (postL (1 - (fr : Int)) bs (last, ks)).2 ∧ Sl w' (Own0 w.heap.size tag') 3 1 v n xs ∧ n ≤ bs.length ∧ ∀ u ∈ xs, u.oneCell' = true := by
  obtain ⟨to, hto⟩ : ∃ to, to = 1 - (fr : Int) := ⟨_, rfl⟩
  have hw1 : IntKind.i64.wrap (1 - (fr : Int)) = to := by rw [hto]; exact IntWalk.i64_in _ (by omega)
  have hto1 : to = 0 ∨ to = 1 := by omega
  rw [← hto]
  obtain ⟨n, hn⟩ : ∃ n, n = bs.length := ⟨_, rfl⟩
  rw [← hn] at hbb hbl ⊢
  have HBB := hid hbb
  have HT := hid hT
  have HB := hid blk
  have HZ := hid hz
  have HLK := hid lk
  have HN := hid hn
  have HBM := hid hbm
  have HTO := hid hto
  clear hbb hT blk hz lk hn hbm hto
  go_enter Tryz.func46, Tryz.ntmps46
  go_upto_region 3 with fail
  go_loopg [7, 14] n (fun g o i wr => ∃ (j m : Nat) (xs : List Value) (tagj : Nat → Nat), j ≤ n ∧ g = n - j ∧ i = .int .i64 j ∧ m ≤ j ∧ Hid (∀ u ∈ xs, u.oneCell' = true) ∧ Hid (Turn (fun k => k = 21) w tag wr tagj) ∧ Hid (LK wr tagj 21 lz (postL to (bs.take j) (last, ks)).1 (postL to (bs.take j) (last, ks)).2) ∧ Hid (Sl wr (Own0 w.heap.size tagj) 3 1 o m xs))
  case atStart => exact ⟨0, 0, [], tag, by omega, rfl, rfl, Nat.le_refl _, hid (fun u hu => by cases hu), hid (Turn.refl HT.out), HLK, hid (Sl.nil_ _ _ _ _)⟩
  case round =>
    obtain ⟨j, m, xs, tagj, hj, rfl, rfl, hm, hone, ht, hlk, hsl⟩ := hrel
    obtain ⟨Ao, co, rfl, r1, r2⟩ := hsl.out.slice_
    by_cases hlt : j < n
    · obtain ⟨vs, row, el⟩ := HBB.out.mv (ht.out.mv (j := 0) (by decide))
      have hjb : j < bs.length := by have := HN.out; omega
      obtain ⟨A1, c1, hv1, hs1⟩ := el j _ (List.getElem?_eq_getElem hjb)
      obtain ⟨b, hb⟩ : ∃ b, b = bs[j] := ⟨_, rfl⟩
      rw [← hb] at hv1 hs1
      have row' : Sl wr (Ow tagj 0) 80 1 (.slice A n c) n vs := by have := row; rwa [← HN.out] at this
      have hvl : 0 < vs.length := by have := row'.len; omega
      obtain ⟨bb, off, rfl, hF, hc⟩ := row'.rdf.2 hvl
      have x0 : wr.cell? ⟨bb, off + j, none⟩ = some (.slice A1 b.length c1) := hc j _ hv1
      have hji : (j : Int) < (n : Int) := by omega
      have hle := postL_le to (bs.take j) (last, ks)
      have htl : (bs.take j).length ≤ j := by rw [List.length_take]; omega
      simp only at hle
      obtain ⟨st, hst⟩ : ∃ st, st = postL to (bs.take j) (last, ks) := ⟨_, rfl⟩
      have hstep := postL_snoc (to := to) (s := (last, ks)) (List.getElem?_eq_getElem hjb)
      rw [← hb, ← hst] at hstep
      rw [← hst] at hle hlk
      have hsd := ksend82 ht.out.td hlk.out (by omega) (by omega) to A1 b.length c1 b (hs1.rdf.rd (by decide)) (HBM.out b (by rw [hb]; exact List.getElem_mem hjb))
      have hbz := ht.out.blk HB.out (by rw [HZ.out]; decide)
      have q5 : wr.cell? ⟨zw, 5, none⟩ = some (P lz) := (wdcells hbz).2.2.2.2.2.1
      have HSTEP := hid hstep
      obtain ⟨r, hr⟩ : ∃ r, r = Lk.sR st.1 to st.2 := ⟨_, rfl⟩
      obtain ⟨er, her⟩ : ∃ er, er = Lk.sE to st.2 := ⟨_, rfl⟩
      rw [← hr, ← her] at hsd
      clear hstep hst hb row row' hc el hs1 hv1 hvl htl hF hbz hr her hle hjb
      go_wp2_with (go_at_call 82; refine stop_ (fun Ps hPs => ?_))
      refine hPs ?_
      clear hPs Ps x0 q5
      refine hsd.mono ?_
      rintro e' w2 ⟨rfl, tag2, ht2, hlk2⟩
      have HT2 := hid (ht.out.trans ht2)
      have HK2 := hid (show LK w2 tag2 21 lz (postL to (bs.take (j + 1)) (last, ks)).1 (postL to (bs.take (j + 1)) (last, ks)).2 by rw [HSTEP.out]; exact hlk2)
      have HS2 := hid (hsl.out.mv (ht2.mv0 (by decide) w.heap.size))
      have hls := Nat.le_trans ht.out.size ht2.size
      clear hsd ht2 hlk2 hlk hsl
      by_cases he0 : er = 0
      · subst he0
        go_wp2_with (at_builtin; refine stop_ (fun Ps hPs => ?_))
        refine hPs ?_
        clear hPs Ps
        refine wpList_appS1 (c := 1) T32 (.tmp 31) (.tmp 33) rfl rfl HS2.out rfl rfl rfl (by simp [Value.oneCell']) (by omega) fun v6 w6 hv6 hg6 hat6 => ?_
        have hm6 : Mod (Own0 w.heap.size tag2) w2 w6 := Mod.grown hg6 fun g hg => (HS2.out.lt g hg).1
        have HT6 := hid (HT2.out.box hm6 fun k hk => hk.1)
        have HK6 := hid (HK2.out.mv hm6.size (hm6.mv fun k a b => by have h5 : tag2 k = 21 := a; have h6 := b.2; omega))
        have HS6 := hid (hv6.to (G := Own0 w.heap.size tag2) fun k hk => by
          rcases hk with h | h
          · exact h
          · exact ⟨Nat.le_trans hls h, HT2.out.td k h⟩)
        obtain ⟨A6, c6, rfl, _, _⟩ := hv6.slice_
        clear hv6 hg6 hat6 hm6
        go_wp2_with fail
        go_roundg (n - (j + 1))
        case measure => omega
        case rel => exact ⟨j + 1, m + 1, _, tag2, by omega, rfl, by go_num, by omega, hid (fun u hu => by rcases List.mem_append.1 hu with h | h; · exact hone.out u h
                                                                                                          · simp at h; subst h; rfl), HT6, HK6, HS6⟩
      · go_wp2_with fail
        go_roundg (n - (j + 1))
        case measure => omega
        case rel => exact ⟨j + 1, m, xs, tag2, by omega, rfl, by go_num, by omega, hone, HT2, HK2, HS2⟩
    · obtain rfl : j = n := by omega
      go_wp2_with fail
      go_ret
      have hl := hlk.out
      rw [List.take_of_length_le (by have := HN.out; omega)] at hl
      exact ⟨_, m, xs, rfl, tagj, ht.out, hl, hsl.out, by have := HN.out; omega, hone.out⟩
end Go.Proofs.YtbpnbcjgkbpmgaaGreat
namespace Go.Proofs.YtbpnbcjgkbpmgaaGreat
open Go.RowKit Go.Lg Ds St
set_option linter.unusedVariables false
set_option linter.unusedSimpArgs false
attribute [local go_sem] field190 field43_0 field43_1 field43_2
theorem nm_add {w : World} {tag : Nat → Nat} {t dz nz z B : Nat} {num most ac kn : Int} {cs tk : List Cmt} {v : Value} {ms : List Cm} (hT : Tidy w tag) (h : NM w tag t dz nz z num most ac kn p2 cs B) (h1 : One 0 (cs ++ tk)) (hcl : Cl w (Ow tag 0) v ms) (hms : ms.map Cm.p = tk) (hnil : ms = [] → v = .slice none 0 0) (htk : tk.length ≤ 1) (hcs : cs.length ≤ 500) (hB : B ≤ 500000) :
    Calls Tryz.prog 137 #[P z, v] w fun e w' => e = .returned (.int .i64 0) ∧ ∃ tag', Turn (Pr6 t) w tag w' tag' ∧ NM w' tag' t dz nz z num most ac kn p2 (cs ++ tk) (B + 2000) := by
  obtain ⟨wz, rz, sz, n, es, fs, sm, blk, hz, hn, he, hw, hf, h0⟩ := h
  have h := NM.mk (B := B) wz rz sz n es fs sm blk hz hn he hw hf h0
  cases ms with
  | nil =>
    rw [hnil rfl]
    have : tk = [] := hms.symm
    subst this
    rw [List.append_nil]
    exact (stadd137_nil sm).mono fun e w' ⟨he, l⟩ => ⟨he, tag, l.turn hT (Pr6 t), (h.later l).more (by omega)⟩
  | cons m r =>
    have hr : r = [] := by
      have : (m :: r).length ≤ 1 := by rw [← List.length_map (f := Cm.p), hms]; exact htk
      rw [List.length_cons] at this
      exact List.eq_nil_of_length_eq_zero (by omega)
    subst hr
    have htk' : tk = [m.p] := hms.symm
    subst htk'
    obtain ⟨A, c, hv, hc1, hc2⟩ := hcl.row.slice_
    subst hv
    have hop := hcl.ops m List.mem_cons_self
    have hm := One.at_ (j := cs.length) (c := m.p) h1 (by simp)
    have hmn : m.num = (cs.length : Int) + 1 := by have := hm.2.1; have e : m.p.num = m.num := rfl; rw [e] at this; omega
    have hme : m.ep = 1 := hm.2.2
    have hck : (Cmt.mk m.ep m.num m.os).k = 0 := hm.1
    have hcs1 : One 0 cs := by
      have := h1.take cs.length
      simpa using this
    have hel := encC_le hck
    have hfl := fr_len (encC ⟨m.ep, m.num, m.os⟩)
    have hk8 := (Cmt.oks hck).2.1
    simp only at hk8
    have hrow : RdF w (fun b => ¬Prt t (tag b)) 3 A 1 [.int .i64 m.ep, .int .i64 m.num, .slice m.A m.n m.c] := by
      have h2 := hcl.row.rdf
      have e : cmc [m] = [.int .i64 m.ep, .int .i64 m.num, .slice m.A m.n m.c] := by simp [cmc]
      rw [e] at h2
      exact h2.to fun k hk => by have h3 : tag k = 0 := hk; rw [h3]; unfold Prt; omega
    have hro : Ro w (fun b => ¬Prt t (tag b)) m.A m.n m.c (opc m.os) := (Sl.ro hop.1).to fun k hk => by have h3 : tag k = 0 := hk; rw [h3]; unfold Prt; omega
    have hle := lastEp_one hcs1
    have hadd := stadd137 (G := fun b => ¬Prt t (tag b)) (c := c) hT sm hrow hro hop.2 hc1 hc2 (fun b hb => hb) hck (by omega) (by omega) (by omega) (by omega) (by omega) (by omega) (by omega) (by omega) rfl (show (2 : Int) ≠ 3 by decide) (show m.ep ≤ 1 by omega) (show (0 : Int) ≤ _ by omega)
    refine hadd.mono fun e w' ⟨he2, tag', ht, sm'⟩ => ⟨he2, tag', ht.more fun i hi => prt_pr6 hi, wz, rz, sz, n + m.n, _, _, sm', ht.blk blk (by rw [hz]; unfold Prt; omega), (ht.old nz blk.lt).trans hz, ?_, ?_, ?_, ?_, ?_⟩
    · have := hop.2; omega
    · simp [he]
    · rw [wlen_snoc]; omega
    · rw [tot_upd fs 0 _ (by decide)]; omega
    · have e : m.p = ⟨m.ep, m.num, m.os⟩ := rfl
      rw [e, logB_snoc]; simp [upd, h0]
set_option maxHeartbeats 2000000 in
set_option maxRecDepth 100000 in
theorem ndheard81_n {w : World} {tag : Nat → Nat} {t dz nz z B : Nat} {num most ac kn : Int} {cs : List Cmt} {k ro en fr pv : Int} {vS vC : Value} (h : NM w tag t dz nz z num most ac kn p2 cs B) (hk : k ≠ 2) :
    Calls Tryz.prog 81 #[P nz, P z, .agg (msgc k 1 ro en vS fr pv vC)] w fun e w' => e = .returned (.tuple #[.slice none 0 0, .int .i64 0]) ∧ Below w.heap.size w w' := by
  obtain ⟨W, hW⟩ : ∃ W, W = w.alloc (.cells (msgc k 1 ro en vS fr pv vC) 147) := ⟨_, rfl⟩
  have lW : Lat w W := by rw [hW]; exact (Lat.refl w).alloc _
  have kW : Blk W w.heap.size 147 (msgc k 1 ro en vS fr pv vC) := by rw [hW]; exact Blk.new _ _ _
  have hPG : Calls Tryz.prog 78 #[P z] W fun e w' => e = .returned (.agg #[.int .i64 1, .int .u8 2, .int .i64 0, .int .u8 0, .int .i64 0, .int .i64 0]) ∧ Below W.heap.size W w' := by
    obtain ⟨wz, rz, sz, n, es, fs, sm, _⟩ := h.later lW
    exact stpage78 sm.sb
  have HL := hid lW
  have HK := hid kW
  clear lW kW h
  go_enter Tryz.func81, Tryz.ntmps81
  go_upto_region 1 with fail
  rw [← hW]
  clear hW
  go_upto_region 2 with ((go_at_call 78; (with_reducible refine hPG.mono ?_); rintro e' w1 ⟨rfl, hb1⟩))
  obtain ⟨V, hV⟩ : ∃ V, V = w1.alloc (.cells #[.int .i64 1, .int .u8 2, .int .i64 0, .int .u8 0, .int .i64 0, .int .i64 0] 43) := ⟨_, rfl⟩
  have lV : Lat W V := by rw [hV]; exact (Lat.mk hb1).alloc _
  have kV : Blk V w1.heap.size 43 #[.int .i64 1, .int .u8 2, .int .i64 0, .int .u8 0, .int .i64 0, .int .i64 0] := by rw [hV]; exact Blk.new _ _ _
  obtain ⟨g, hg⟩ : ∃ g, g = w1.heap.size := ⟨_, rfl⟩
  rw [← hg] at kV ⊢
  rw [← hV]
  have g1 : V.cell? ⟨g, 1, none⟩ = some (.int .u8 2) := kV.cell 1
  obtain ⟨m0, m1, m2, m3, m4, m5, m6, m7⟩ := mcells (lV.blk HK.out)
  have HB := hid (HL.out.trans lV).b
  clear hV lV kV hg hb1 hPG
  go_wp2_with fail
  go_ret2
  exact ⟨rfl, HB.out⟩
theorem ack_set {W X w2 : World} (l : Lat W X) (hb : Below X.heap.size X w2) (kb : Blk w2 W.heap.size 147 (msgc 0 0 0 0 nils 0 0 nils)) (k ep ro en fr pv : Int) :
    Lat W (setm w2 W.heap.size k ep ro en nils fr pv nils) ∧ Blk (setm w2 W.heap.size k ep ro en nils fr pv nils) W.heap.size 147 (msgc k ep ro en nils fr pv nils) := by
  obtain ⟨h1, h2, h3⟩ := res_set k ep ro en fr pv nils nils kb (l.below hb).b
  exact ⟨⟨h2⟩, h1⟩
set_option maxHeartbeats 4000000 in
set_option maxRecDepth 100000 in
theorem ndheard81_s {w : World} {tag : Nat → Nat} {t dz nz z B : Nat} {num most ac kn : Int} {cs tk : List Cmt} {fr n2 c2 : Nat} {pv : Int} {A2 : Option Addr} {ns : List Cm} (hT : Tidy w tag) (h : NM w tag t dz nz z num most ac kn p2 cs B) (h1 : One 0 (cs ++ tk)) (hns : CS w w.heap.size A2 n2 ns) (hok : Mok w w.heap.size (msgc 2 1 0 0 nils fr pv (.slice A2 n2 c2)))
    (hn2 : n2 ≤ 4) (f1 : 1 ≤ fr) (f2 : fr ≤ 1048576) (hf : ∀ ms, ms.map Cm.p = cs → Fits ms ns fr pv) (hgap : fr - 1 ≤ cs.length) (hcap : ∀ m ∈ ns, m.n ≤ m.c ∧ m.n ≤ 1000000) (htk : tk = beh cs.length (ns.map Cm.p)) (htl : tk.length ≤ 1) (hcs : cs.length ≤ 500) (hB : B ≤ 500000) :
    Calls Tryz.prog 81 #[P nz, P z, .agg (msgc 2 1 0 0 nils fr pv (.slice A2 n2 c2))] w fun e w' => ∃ v, e = .returned (.tuple #[v, .int .i64 0]) ∧ ∃ tag', Turn (Pr6 t) w tag w' tag' ∧ NM w' tag' t dz nz z num most ac kn p2 (cs ++ tk) (B + 2000) ∧ Bb w' (Own0 w.heap.size tag') v [(Msg.ack 1 (cs ++ tk).length).enc] := by
  have hcs1 : One 0 cs := by
    have := h1.take cs.length
    simpa using this
  obtain ⟨W, hW⟩ : ∃ W, W = w.alloc (.cells (msgc 2 1 0 0 nils fr pv (.slice A2 n2 c2)) 147) := ⟨_, rfl⟩
  have lW : Lat w W := by rw [hW]; exact (Lat.refl w).alloc _
  have kW : Blk W w.heap.size 147 (msgc 2 1 0 0 nils fr pv (.slice A2 n2 c2)) := by rw [hW]; exact Blk.new _ _ _
  have hN := h.later lW
  have hPG : Calls Tryz.prog 78 #[P z] W fun e w' => e = .returned (.agg #[.int .i64 1, .int .u8 2, .int .i64 0, .int .u8 0, .int .i64 0, .int .i64 0]) ∧ Below W.heap.size W w' := by
    obtain ⟨wz, rz, sz, n, es, fs, sm, _⟩ := hN
    exact stpage78 sm.sb
  have hop : ∀ c ∈ cs, c.os.length ≤ 8 := fun c hc => (Cmt.oks (hcs1.mem hc).1).2.1
  have hLG : ∀ X, Lat W X → Calls Tryz.prog 136 #[P z] X (LogIs cs X) := fun X l => by
    obtain ⟨wz, rz, sz, n, es, fs, sm, _⟩ := hN.later l
    exact stlog136 sm.sb (by omega) (fun c hc => by have := hop c hc; omega)
  have hTK : ∀ X A1 c1 ms, Lat W X → Cl X (fun k => W.heap.size ≤ k) (.slice A1 cs.length c1) ms → ms.map Cm.p = cs → Calls Tryz.prog 135 #[.int .i64 1, .slice A1 cs.length c1, .agg (msgc 2 1 0 0 nils fr pv (.slice A2 n2 c2))] X (TakeIs tk X) := fun X A1 c1 ms l hc hms => by
    have hl := lW.trans l
    have hml : ms.length = cs.length := by rw [← hms]; simp
    rw [htk]
    exact take135 1 pv (hc.cs hml) ((hns.keep hl.b).more hl.size) (One.fol_ (k := 0) (by rw [hms]; exact hcs1) (by omega)) (by omega) ((hok.keep hl.b).more hl.size) hn2 f1 f2 (hf ms hms) hgap hcap
  have HPG := hid hPG
  have HLG := hid hLG
  have HTK := hid hTK
  have HL := hid lW
  have HK := hid kW
  have HN := hid hN
  have HT := hid hT
  have H1 := hid h1
  have HTL := hid htl
  clear hPG hLG hTK lW kW hN hT h1 h hns hok hf hgap hcap htk htl hop hcs1
  go_enter Tryz.func81, Tryz.ntmps81
  go_upto_region 1 with fail
  rw [← hW]
  clear hW
  go_upto_region 2 with ((go_at_call 78; (with_reducible refine HPG.out.mono ?_); rintro e' w1 ⟨rfl, hb1⟩))
  obtain ⟨V, hV⟩ : ∃ V, V = w1.alloc (.cells #[.int .i64 1, .int .u8 2, .int .i64 0, .int .u8 0, .int .i64 0, .int .i64 0] 43) := ⟨_, rfl⟩
  have lV : Lat W V := by rw [hV]; exact (Lat.mk hb1).alloc _
  have kV : Blk V w1.heap.size 43 #[.int .i64 1, .int .u8 2, .int .i64 0, .int .u8 0, .int .i64 0, .int .i64 0] := by rw [hV]; exact Blk.new _ _ _
  have hw1 : W.heap.size ≤ w1.heap.size := hb1.size
  obtain ⟨g, hg⟩ : ∃ g, g = w1.heap.size := ⟨_, rfl⟩
  rw [← hg] at kV hw1 ⊢
  rw [← hV]
  have g0 : V.cell? ⟨g, 0, none⟩ = some (.int .i64 1) := kV.cell 0
  have g1 : V.cell? ⟨g, 1, none⟩ = some (.int .u8 2) := kV.cell 1
  obtain ⟨m0, m1, m2, m3, m4, m5, m6, m7⟩ := mcells (lV.blk HK.out)
  have HLV := hid lV
  have HKV := hid kV
  have HG := hid (And.intro hw1 HL.out.size)
  clear hV lV kV hg hb1 hw1 HPG
  go_upto_region 8 with fail
  refine' merge4 (fun (A1 : Option Addr) (c1 : Nat) (A3 : Option Addr) (c3 : Nat) X => ∃ ms3, Lat V X ∧ ms3.map Cm.p = tk ∧ Cl X (fun k => w.heap.size ≤ k) (.slice A3 tk.length c3) ms3 ∧ (ms3 = [] → Value.slice A3 tk.length c3 = .slice none 0 0)) ?i1 (fun A1 c1 A3 c3 w5 h5 => ?i2)
  case i1 =>
    go_region_law (first
      | (go_simp; go_at_call 136; (with_reducible refine (HLG.out _ (HLV.out.trans (by repeat (first | exact Lat.refl _ | refine Lat.drew ?_ | refine Lat.drewN ?_ _ | refine Lat.alloc ?_ _)))).mono ?_); rintro e2 w2 ⟨v2, ms2, rfl, hms2, hcl2, hb2⟩; obtain ⟨A1, c1, hv2⟩ : ∃ A c, v2 = .slice A cs.length c := (by obtain ⟨A, c, h, _⟩ := hcl2.row.slice_; exact ⟨A, c, by rw [h, ← hms2]; simp⟩); subst hv2; have l2 : Lat V w2 := Lat.below (by repeat (first | exact Lat.refl _ | refine Lat.drew ?_ | refine Lat.drewN ?_ _ | refine Lat.alloc ?_ _)) hb2; have hcl2' : Cl w2 (fun k => W.heap.size ≤ k) (.slice A1 cs.length c1) ms2 := hcl2.to (fun k hk => Nat.le_trans (Lat.size (HLV.out.trans (by repeat (first | exact Lat.refl _ | refine Lat.drew ?_ | refine Lat.drewN ?_ _ | refine Lat.alloc ?_ _)))) hk); have g02 : w2.cell? ⟨g, 0, none⟩ = some (.int .i64 1) := (l2.blk HKV.out).cell 0; obtain ⟨n0, n1, n2', n3, n4, n5, n6, n7⟩ := mcells ((HLV.out.trans l2).blk HK.out))
      | (go_simp; go_at_call 135; (with_reducible refine (HTK.out _ A1 c1 ms2 (HLV.out.trans (by repeat (first | exact l2 | refine Lat.drew ?_ | refine Lat.drewN ?_ _))) (by repeat (first | exact hcl2' | refine Cl.later ?_ (below_drew _))) hms2).mono ?_); rintro e3 w3 ⟨v3, ms3, rfl, hms3, hcl3, hb3, hnil3⟩; obtain ⟨A3, c3, hv3⟩ : ∃ A c, v3 = .slice A tk.length c := (by obtain ⟨A, c, h, _⟩ := hcl3.row.slice_; exact ⟨A, c, by rw [h, ← hms3]; simp⟩); subst hv3; have l3 : Lat V w3 := Lat.below (by repeat (first | exact l2 | refine Lat.drew ?_ | refine Lat.drewN ?_ _)) hb3))
    all_goals
      have hl9 := (HLV.out.trans (Lat.trans l2 (by repeat (first | exact Lat.refl _ | refine Lat.drew ?_ | refine Lat.drewN ?_ _)))).size
      refine ⟨A1, c1, A3, c3, rfl, ms3, l3, hms3, hcl3.to (fun k hk => Nat.le_trans (Nat.le_trans HG.out.2 hl9) hk), hnil3⟩
  case i2 =>
    obtain ⟨ms3, l5, hms3, hcl3, hnil3⟩ := h5
    have hl5 := HLV.out.trans l5
    have hN5 := HN.out.later hl5
    have hT5 := HT.out.below (HL.out.trans hl5).size
    have hadd := nm_add hT5 hN5 H1.out (hcl3.to fun k hk => HT.out k hk) hms3 hnil3 HTL.out hcs hB
    have HL5 := hid (HL.out.trans hl5)
    have HKG := hid (l5.blk HKV.out)
    have HGN : Hid (tag g = 0) := hid (HT.out g (Nat.le_trans HG.out.2 HG.out.1))
    clear l5 hms3 hcl3 hnil3 hl5 hN5 hT5 g0 g1 m0 m1 m2 m3 m4 m5 m6 m7
    go_upto_region 14 with (go_at_call 137; (with_reducible refine hadd.mono ?_); rintro e' w6 ⟨rfl, tag6, ht6, hn6⟩)
    have kg6 := ht6.blk HKG.out (by rw [HGN.out]; exact pr6_0 t)
    have g06 : w6.cell? ⟨g, 0, none⟩ = some (.int .i64 1) := kg6.cell 0
    obtain ⟨el, hel⟩ : ∃ el, el = (cs ++ tk).length := ⟨_, rfl⟩
    have hel2 : el ≤ 1000 := by rw [hel, List.length_append]; have := HTL.out; omega
    have h98 : ∀ X, Lat w6 X → Calls Tryz.prog 98 #[P z] X (Num0 (el : Nat) X) := fun X l => by
      obtain ⟨wz, rz, sz, n, es, fs, sm, _⟩ := hn6.later l
      rw [hel]
      exact stend98 sm.sb
    have h138 : ∀ X, Calls Tryz.prog 138 #[.int .i64 1, .int .i64 (el : Nat)] X _ := fun X => sack138 (w := X) 1 (el : Nat) (by omega) (by omega) (by omega) (by omega)
    have HEL := hid hel
    have H98 := hid h98
    have H138 := hid h138
    have HN6 := hid hn6
    have HT6 := hid ((HL5.out.turn HT.out (Pr6 t)).trans ht6)
    have HSZ := hid (Nat.le_trans HL5.out.size ht6.size)
    have HKG6 := hid kg6
    clear hel h98 h138 hn6 ht6 hadd kg6
    refine' merge1 (fun (Y : World) X => Lat w6 X ∧ Blk X Y.heap.size 147 (msgc 3 1 0 (el : Nat) nils 0 0 nils)) ?j1 (fun Y w8 h8 => ?j2)
    case j1 =>
      obtain ⟨w6', hw6'⟩ : ∃ w6', w6' = w6 := ⟨_, rfl⟩
      rw [← hw6'] at H98 HKG6 g06 ⊢
      clear hw6'
      have kz1 : Blk (w6'.alloc (.cells (msgc 0 0 0 0 nils 0 0 nils) 147)) w6'.heap.size 147 (msgc 0 0 0 0 nils 0 0 nils) := Blk.new _ _ _
      have KZ := hid kz1
      have g0z : (w6'.alloc (.cells (msgc 0 0 0 0 nils 0 0 nils) 147)).cell? ⟨g, 0, none⟩ = some (.int .i64 1) := (HKG6.out.alloc _).cell 0
      clear kz1
      go_region_law (first
        | (go_simp; go_at_call 98; (with_reducible refine (H98.out _ (by repeat (first | exact Lat.refl _ | refine Lat.drew ?_ | refine Lat.drewN ?_ _ | refine Lat.alloc ?_ _))).mono ?_); rintro e2 w7 ⟨rfl, rfl⟩)
        | (go_simp; go_at_call 138; (with_reducible refine (H138.out _).mono ?_); rintro e3 w7 ⟨rfl, hb7⟩; have l7 : Lat w6' w7 := Lat.below (by repeat (first | exact Lat.refl _ | refine Lat.drew ?_ | refine Lat.drewN ?_ _ | refine Lat.alloc ?_ _)) hb7; (try (first | have kb := (KZ.out.later (below_drew _)).later hb7 | have kb := KZ.out.later hb7 | have kb := (Blk.new w6'.drew 147 (msgc 0 0 0 0 nils 0 0 nils)).later hb7 | have kb := ((Blk.new w6'.drew 147 (msgc 0 0 0 0 nils 0 0 nils)).later (below_drew _)).later hb7); have kb' : Blk w7 w6'.heap.size 147 (msgc 0 0 0 0 nils 0 0 nils) := kb; obtain ⟨b0, b1, b2, b3, b4, b5, b6, b7⟩ := mcells kb'; obtain ⟨f0, f1, f2', f3, f4, f5, f6, f7⟩ := mfroz kb')))
      all_goals
        first
        | (have hz1 := l7.alloc (.cells (msgc 3 1 0 (el : Nat) nils 0 0 nils) 147); have hz2 := Blk.new w7 147 (msgc 3 1 0 (el : Nat) nils 0 0 nils); refine ⟨w7, rfl, ?_, ?_⟩; with_reducible exact hz1; with_reducible exact hz2)
        | (have hz := ack_set (by repeat (first | exact Lat.refl _ | refine Lat.drew ?_ | refine Lat.drewN ?_ _ | refine Lat.alloc ?_ _)) hb7 kb' 3 1 0 (el : Nat) 0 0; refine ⟨w6', rfl, ?_, ?_⟩; with_reducible exact hz.1; with_reducible exact hz.2)
    case j2 =>
      obtain ⟨l8, k8⟩ := h8
      obtain ⟨y, hy⟩ : ∃ y, y = Y.heap.size := ⟨_, rfl⟩
      rw [← hy] at k8 ⊢
      clear hy
      obtain ⟨m0, m1, m2, m3, m4, m5, m6, m7⟩ := mcells k8
      have hen : Calls Tryz.prog 139 #[.agg (msgc 3 1 0 (el : Nat) nils 0 0 nils)] w8 (EncM (Msg.ack 1 el).enc w8) := encode_ack (w := w8) 1 el (by omega) (by omega) (by omega)
      have HL8 := hid l8
      clear l8 k8 g06
      go_wp2_with (go_at_call 139; refine stop_ (fun Ps hPs => ?_))
      refine hPs ?_
      clear hPs Ps m0 m1 m2 m3 m4 m5 m6 m7
      refine hen.mono ?_
      rintro e' w9 ⟨A9, c9, rfl, hs9, hb9⟩
      obtain ⟨bs, hbs⟩ : ∃ bs, bs = (Msg.ack 1 el).enc := ⟨_, rfl⟩
      rw [← hbs] at hs9 ⊢
      have hT9 := HT6.out.td.below (Nat.le_trans HL8.out.size hb9.size)
      have hw8 := Nat.le_trans HSZ.out HL8.out.size
      have hone := Bb.one (F := Own0 w.heap.size tag6) (hs9.to fun k hk => ⟨Nat.le_trans hw8 hk, HT6.out.td k (Nat.le_trans HL8.out.size hk)⟩) (fun k hk => ⟨Nat.le_trans hw8 (Nat.le_trans hb9.size hk), hT9 k hk⟩)
      have HONE := hid hone
      have HL9 := hid ((HL8.out.below hb9).alloc (.cells #[.slice A9 bs.length c9] 80))
      have HBS := hid hbs
      clear hs9 hb9 hT9 hw8 hone hbs hen
      go_wp2_with fail
      go_ret2
      refine ⟨_, rfl, tag6, HT6.out.lat HL9.out, HN6.out.later HL9.out, ?_⟩
      rw [← HEL.out, ← HBS.out]
      exact HONE.out
end Go.Proofs.YtbpnbcjgkbpmgaaGreat
