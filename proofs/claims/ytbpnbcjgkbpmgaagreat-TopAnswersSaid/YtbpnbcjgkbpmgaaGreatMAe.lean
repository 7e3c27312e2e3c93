/- A primary answers without waiting for the other site, as many times as its leash allows: of any acts. No condition. (part 5) -/
import Derived.Maps.OwnSet
import Derived.Maps.OwnOps
import Derived.Maps.Views
import Derived.BigQuiet
import Derived.Deep.RegionHeld3
import Derived.Test.YtbpnbcjgkbpmgaaGreatMAc
import Derived.Test.YtbpnbcjgkbpmgaaGreatMAd
namespace Go.Proofs.YtbpnbcjgkbpmgaaGreat
open Go.RowKit Go.Lg St
set_option linter.unusedVariables false
set_option linter.unusedSimpArgs false
abbrev Bys := List UInt8
def kb (k : ByteArray) : Bys := k.data.toList
def ba (l : Bys) : ByteArray := ⟨l.toArray⟩
@[simp] theorem kb_ba (l : Bys) : kb (ba l) = l := by simp [kb, ba]
@[simp] theorem ba_kb (k : ByteArray) : ba (kb k) = k := by simp [kb, ba]
theorem kb_length (k : ByteArray) : (kb k).length = k.size := by simp [kb]
theorem kb_inj {a b : ByteArray} (h : kb a = kb b) : a = b := by rw [← ba_kb a, h, ba_kb]
def sh : Bys → Bys → Nat
  | x :: a, y :: b => if x = y then sh a b + 1 else 0
  | _, _ => 0
theorem sh_le : ∀ a b, sh a b ≤ a.length ∧ sh a b ≤ b.length
  | [], b => by simp [sh]
  | x :: a, [] => by simp [sh]
  | x :: a, y :: b => by
    have := sh_le a b
    unfold sh
    split <;> simp <;> omega
theorem sh_take : ∀ a b : Bys, a.take (sh a b) = b.take (sh a b)
  | [], b => by simp [sh]
  | x :: a, [] => by simp [sh]
  | x :: a, y :: b => by
    unfold sh
    split
    · rename_i h
      subst h
      simp [sh_take a b]
    · simp
theorem sh_at : ∀ (a b : Bys) (k : Nat), (∀ i, i < k → a[i]? = b[i]?) → k ≤ a.length → k ≤ b.length → (k = a.length ∨ k = b.length ∨ a[k]? ≠ b[k]?) → sh a b = k
  | [], b, k, _, h1, _, _ => by simp at h1; subst h1; simp [sh]
  | x :: a, [], k, _, _, h2, _ => by simp at h2; subst h2; simp [sh]
  | x :: a, y :: b, 0, _, _, _, h => by
    unfold sh
    rw [if_neg]
    rintro rfl
    rcases h with h | h | h
    · simp at h
    · simp at h
    · simp at h
  | x :: a, y :: b, k + 1, hi, h1, h2, h => by
    have h0 := hi 0 (by omega)
    simp at h0
    unfold sh
    rw [if_pos h0, sh_at a b k (fun i hik => by have := hi (i + 1) (by omega); simpa using this) (by simpa using h1) (by simpa using h2) (by simpa using h)]
structure Cmt where
  ep : Int
  num : Int
  os : List Op3
def _root_.Go.Proofs.YtbpnbcjgkbpmgaaGreat.St.Cm.p (m : Cm) : Cmt := ⟨m.ep, m.num, m.os⟩
def Cmt.k (c : Cmt) : Int := if (1 ≤ c.ep ∧ c.ep ≤ 1048576) ∧ 1 ≤ c.num ∧ c.num ≤ 1048576 then bk c.os else 2
def encOp (last : Bys) (o : Op3) : Bys :=
  (if o.put then 1 else 0) :: (Vi.enc (sh last (kb o.key)) ++ (Vi.enc ((kb o.key).length - sh last (kb o.key)) ++ ((kb o.key).drop (sh last (kb o.key)) ++ (if o.put then Vi.enc (kb o.val).length ++ kb o.val else []))))
def encOps : Bys → List Op3 → Bys
  | _, [] => []
  | last, o :: r => encOp last o ++ encOps (kb o.key) r
def encB (os : List Op3) : Bys := Vi.enc os.length ++ encOps [] os
def encC (c : Cmt) : Bys := Vi.enc c.ep.toNat ++ (Vi.enc c.num.toNat ++ encB c.os)
abbrev Rs := Nat × Bool
def rnum (b : Bys) (most : Int) (s : Rs) : Nat × Rs :=
  if s.2 then (0, s) else if (Vi.small most (b.drop s.1)).2.2 ≠ 0 then (0, (s.1, true)) else ((Vi.small most (b.drop s.1)).1, (s.1 + (Vi.small most (b.drop s.1)).2.1, false))
def rtext (b : Bys) (most : Int) (s : Rs) : Bys × Rs :=
  if (rnum b most s).2.2 ∨ b.length - (rnum b most s).2.1 < (rnum b most s).1 then ([], ((rnum b most s).2.1, true))
  else ((b.drop (rnum b most s).2.1).take (rnum b most s).1, ((rnum b most s).2.1 + (rnum b most s).1, false))
def rkey (b last : Bys) (s : Rs) : Bys × Rs :=
  (last.take (rnum b last.length s).1 ++ (rtext b 16 (rnum b last.length s).2).1, ((rtext b 16 (rnum b last.length s).2).2.1, (rtext b 16 (rnum b last.length s).2).2.2 || decide (sh last (last.take (rnum b last.length s).1 ++ (rtext b 16 (rnum b last.length s).2).1) ≠ (rnum b last.length s).1)))
def rop (b last : Bys) (s : Rs) : Op3 × Rs :=
  if (rnum b 1 s).1 = 1 then (⟨true, ba (rkey b last (rnum b 1 s).2).1, ba (rtext b 32 (rkey b last (rnum b 1 s).2).2).1⟩, (rtext b 32 (rkey b last (rnum b 1 s).2).2).2)
  else (⟨false, ba (rkey b last (rnum b 1 s).2).1, ba []⟩, (rkey b last (rnum b 1 s).2).2)
def rops (b : Bys) : Nat → Bys → Rs → List Op3 × Rs
  | 0, _, s => ([], s)
  | k + 1, last, s => if s.2 then ([], s) else ((rop b last s).1 :: (rops b k (kb (rop b last s).1.key) (rop b last s).2).1, (rops b k (kb (rop b last s).1.key) (rop b last s).2).2)
def readB (b : Bys) : Option (List Op3 × Nat) :=
  if (rops b (rnum b 8 (0, false)).1 [] (rnum b 8 (0, false)).2).2.2 ∨ bk (rops b (rnum b 8 (0, false)).1 [] (rnum b 8 (0, false)).2).1 ≠ 0 then none
  else some ((rops b (rnum b 8 (0, false)).1 [] (rnum b 8 (0, false)).2).1, (rops b (rnum b 8 (0, false)).1 [] (rnum b 8 (0, false)).2).2.1)
def decC (b : Bys) : Option Cmt :=
  if (Vi.small 1048576 b).2.2 ≠ 0 then none
  else if (Vi.small 1048576 (b.drop (Vi.small 1048576 b).2.1)).2.2 ≠ 0 then none
  else match readB (b.drop ((Vi.small 1048576 b).2.1 + (Vi.small 1048576 (b.drop (Vi.small 1048576 b).2.1)).2.1)) with
    | none => none
    | some (os, n) => if (Vi.small 1048576 b).2.1 + (Vi.small 1048576 (b.drop (Vi.small 1048576 b).2.1)).2.1 + n = b.length ∧ (Cmt.mk (Vi.small 1048576 b).1 (Vi.small 1048576 (b.drop (Vi.small 1048576 b).2.1)).1 os).k = 0 then some ⟨(Vi.small 1048576 b).1, (Vi.small 1048576 (b.drop (Vi.small 1048576 b).2.1)).1, os⟩ else none
theorem rnum_le {b : Bys} {most : Int} {s : Rs} (h : s.1 ≤ b.length) : (rnum b most s).2.1 ≤ b.length ∧ s.1 ≤ (rnum b most s).2.1 ∧ ((rnum b most s).1 : Int) ≤ max most 0 := by
  unfold rnum
  split
  · exact ⟨h, Nat.le_refl _, by simp; omega⟩
  · split
    · exact ⟨h, Nat.le_refl _, by simp; omega⟩
    · rename_i h2
      have h2 : (Vi.small most (b.drop s.1)).2.2 = 0 := by simpa using h2
      have h3 := Vi.small_len h2
      have h4 := (Vi.small_ok h2).2.2
      simp only [List.length_drop] at h3
      exact ⟨by simp only; omega, by simp only; omega, by simp only; omega⟩
theorem rtext_le {b : Bys} {most : Int} {s : Rs} (h : s.1 ≤ b.length) : (rtext b most s).2.1 ≤ b.length ∧ ((rtext b most s).1.length : Int) ≤ max most 0 := by
  obtain ⟨h1, _, h2⟩ := rnum_le (most := most) h
  unfold rtext
  split
  · exact ⟨h1, by simp; omega⟩
  · rename_i h3
    have h3 : ¬(b.length - (rnum b most s).2.1 < (rnum b most s).1) := fun h => h3 (.inr h)
    exact ⟨by simp only; omega, by simp only [List.length_take, List.length_drop]; omega⟩
end Go.Proofs.YtbpnbcjgkbpmgaaGreat
namespace Go.Proofs.YtbpnbcjgkbpmgaaGreat
open Go.RowKit Go.Lg St
set_option linter.unusedVariables false
set_option linter.unusedSimpArgs false
abbrev Tab := Bys → Option (ByteArray × Bool)
def Tab.put (f : Tab) (o : Op3) : Tab := fun k => if k = kb o.key then some (o.val, o.put) else f k
def Tab.app (f : Tab) (os : List Op3) : Tab := os.foldl Tab.put f
def noTab : Tab := fun _ => none
abbrev DU := DataW Unit
def leftD (v : ByteArray) (b : Bool) : DU := .agg [.lit (.string v.data.toList), .lit (.bool b)]
def leftE : Value → Option (DU × List MemPlace)
  | .agg cs => match cs.toList with
    | [.string s, .bool b] => some (leftD s b, [])
    | _ => none
  | _ => none
theorem leftE_mk (s : ByteArray) (b : Bool) : leftE (.agg #[.string s, .bool b]) = some (leftD s b, []) := rfl
theorem leftE_inv {v : Value} {s : ByteArray} {b : Bool} {ps : List MemPlace} (h : leftE v = some (leftD s b, ps)) : v = .agg #[.string s, .bool b] := by
  unfold leftE at h
  split at h
  · rename_i cs
    split at h
    · rename_i s' b' hc
      simp only [Option.some.injEq, Prod.mk.injEq] at h
      have h1 := h.1
      unfold leftD at h1
      injection h1 with h1
      simp only [List.cons.injEq, and_true] at h1
      obtain ⟨h2, h3⟩ := h1
      injection h2 with h2
      injection h2 with h2
      injection h3 with h3
      injection h3 with h3
      have : s' = s := by
        obtain ⟨⟨l⟩⟩ := s
        obtain ⟨⟨l'⟩⟩ := s'
        simp at h2
        rw [h2]
      subst this h3
      congr 1
      exact Array.toList_inj.1 hc
    · cases h
  · cases h
structure TabD (D : DU) (f : Tab) : Prop where
  isMap : Maps.IsMap D
  has : ∀ k : Bys, Maps.has D (.string k) = (f k).isSome
  at_ : ∀ (k : Bys) v b, f k = some (v, b) → ∀ z, D.atKey (.string k) z = leftD v b
inductive Tb (w : World) (F : Fp) (z n : Nat) (f : Tab) : Prop
  | mk (b : Nat) (D : DU) (inz : F z) (inb : F b) (blk : Blk w z 134 #[.map (some b)]) (own : w.ownsMap Tryz.prog 9 leftE b n D) (hD : TabD D f)
theorem ownsMap_mv {w w' : World} {b n : Nat} {D : DU} (h : w.ownsMap Tryz.prog 9 leftE b n D) (e : w'.heap[b]? = w.heap[b]?) : w'.ownsMap Tryz.prog 9 leftE b n D := by
  obtain ⟨es, clock, h1, h2, h3, h4⟩ := h
  exact ⟨es, clock, e.trans h1, h2, h3, h4⟩
theorem Tb.mv {w w' : World} {F G : Fp} {z n : Nat} {f : Tab} (h : Tb w F z n f) (m : Mv w w' F G) : Tb w' G z n f := by
  obtain ⟨b, D, inz, inb, blk, own, hD⟩ := h
  exact ⟨b, D, (m z blk.lt inz).1, (m b own.lt inb).1, (m z blk.lt inz).2.trans blk, ownsMap_mv own (m b own.lt inb).2, hD⟩
theorem Tb.more {w : World} {F : Fp} {z n n' : Nat} {f : Tab} (h : Tb w F z n f) (hn : n ≤ n') : Tb w F z n' f := by
  obtain ⟨b, D, inz, inb, blk, own, hD⟩ := h
  exact ⟨b, D, inz, inb, blk, own.mono hn, hD⟩
theorem key_lit (k : Bys) : WideAt.IsKeyLit (.string k) := trivial
theorem keyed9 : Maps.Keyed Tryz.prog 9 := Maps.string_keyed Tryz.underlying9
theorem TabD.put {D : DU} {f : Tab} (h : TabD D f) (o : Op3) : TabD (D.put (.string (kb o.key)) (leftD o.val o.put)) (f.put o) := by
  refine ⟨h.isMap.put _ _, fun k => ?_, fun k v b hf z => ?_⟩
  · unfold Tab.put
    by_cases hk : k = kb o.key
    · subst hk; rw [if_pos rfl]; exact Maps.has_put_same h.isMap (key_lit _) _
    · rw [if_neg hk, ← h.has]; exact Maps.has_put_other (fun e => hk (by injection e)) _
  · unfold Tab.put at hf
    by_cases hk : k = kb o.key
    · subst hk; rw [if_pos rfl] at hf
      injection hf with hf
      injection hf with h1 h2
      rw [← h1, ← h2]
      exact Maps.atKey_put_same h.isMap (key_lit _) _ _
    · rw [if_neg hk] at hf
      rw [Maps.atKey_put_other (fun e => hk (by injection e))]
      exact h.at_ k v b hf z
theorem TabD.none_ : TabD (.map []) noTab := by
  refine ⟨?_, fun k => ?_, fun k v b h => by cases h⟩
  · exact Maps.isMap_empty
  · rfl
def NewT (w : World) (e : Ending) (w' : World) : Prop := ∃ z F, e = .returned (P z) ∧ Tb w' F z 0 noTab ∧ Below w.heap.size w w' ∧ ∀ k, F k → w.heap.size ≤ k
set_option maxHeartbeats 1000000 in
set_option maxRecDepth 100000 in
theorem tnew32 (w : World) : Calls Tryz.prog 32 #[] w (NewT w) := by
  have hm := run_makeMap (P := Tryz.prog) 132 w
  go_enter Tryz.func32, Tryz.ntmps32
  go_wp2_with fail
  go_ret
  have e1 : (w.alloc (.map #[] 0)).heap.size = w.heap.size + 1 := by simp
  refine ⟨w.heap.size + 1, fun k => w.heap.size ≤ k, rfl, ⟨w.heap.size, .map [], by simp, Nat.le_refl _, ?_, ?_, TabD.none_⟩, ?_, fun k hk => hk⟩
  · have := Blk.new (w.alloc (.map #[] 0)) 134 #[.map (some w.heap.size)]
    rwa [e1] at this
  · exact (World.ownsMap_made w Tryz.prog 9 leftE).alloc _
  · exact ((Below.refl _ _).alloc (Nat.le_refl _) _).alloc (by simp) _
theorem map_eq (b : Nat) (w : World) : Sem.run Tryz.prog (binOp BinOp.eql 132 (.map (some b)) (.map none)) w = .ok (.bool false) w := by kernel_rfl
attribute [local go_sem] map_eq
set_option maxHeartbeats 1000000 in
set_option maxRecDepth 100000 in
theorem tnone69 {w : World} {z b : Nat} (h : Blk w z 134 #[.map (some b)]) : Calls Tryz.prog 69 #[P z] w (Asked false w) := by
  have c0 : w.cell? ⟨z, 0, none⟩ = some (.map (some b)) := h.cell 0
  clear h
  go_enter Tryz.func69, Tryz.ntmps69
  go_wp2_with fail
  go_ret
  exact asked_eq rfl
def TGet (r : Option (ByteArray × Bool)) (w : World) (e : Ending) (w' : World) : Prop :=
  (∃ v m t, e = .returned (.tuple #[.string v, .bool m, .bool t]) ∧ (v, m, t) = (match r with | none => (⟨#[]⟩, false, false) | some (v, t) => (v, true, t))) ∧ Below w.heap.size w w'
theorem zero137 (w : World) : (zeroValue 137).run Tryz.prog w = .ok (.agg #[.string ⟨#[]⟩, .bool false]) w := by kernel_rfl
set_option maxHeartbeats 1000000 in
set_option maxRecDepth 100000 in
theorem tget34 {w : World} {F : Fp} {z n : Nat} {f : Tab} (h : Tb w F z n f) (key : ByteArray) (hk : key.size ≤ maxLen) : Calls Tryz.prog 34 #[P z, .string key] w (TGet (f (kb key)) w) := by
  obtain ⟨b, D, inz, inb, blk, own, hD⟩ := h
  have hn := tnone69 blk
  have c0 : w.cell? ⟨z, 0, none⟩ = some (.map (some b)) := blk.cell 0
  obtain ⟨v, ps, hrun, hv⟩ := own.look_ok keyed9 Tryz.underlying132 (zero137 w) (leftE_mk ⟨#[]⟩ false) (WideMaps.keyOf_string_mk Tryz.underlying9 hk)
  rw [hD.has] at hrun
  obtain ⟨s, t, e1, hr⟩ : ∃ s t, v = .agg #[.string s, .bool t] ∧ (s, (f (kb key)).isSome, t) = (match f (kb key) with | none => (⟨#[]⟩, false, false) | some (v, t) => (v, true, t)) := by
    cases hf : f (kb key) with
    | none =>
      have h0 : Maps.has D (.string (kb key)) = false := by rw [hD.has, hf]; rfl
      rw [show Lit.string key.data.toList = .string (kb key) from rfl, Maps.atKey_of_not_has h0] at hv
      exact ⟨_, _, leftE_inv hv, rfl⟩
    | some x =>
      obtain ⟨s, t⟩ := x
      rw [show Lit.string key.data.toList = .string (kb key) from rfl, hD.at_ _ s t hf] at hv
      exact ⟨s, t, leftE_inv hv, rfl⟩
  subst e1
  have hrun' : (Instr.lookup 132 (.map (some b)) (.string key) true).run Tryz.prog w = .ok (.tuple #[.agg #[.string s, .bool t], .bool (f (kb key)).isSome]) w := hrun
  obtain ⟨m, hm⟩ : ∃ m, m = (f (kb key)).isSome := ⟨_, rfl⟩
  rw [← hm] at hrun' hr
  have HR := hid hr
  clear hrun hv hr own hD blk hm
  go_enter Tryz.func34, Tryz.ntmps34
  go_wp2_with (go_at_call 69; (with_reducible refine hn.mono ?_); rintro e' w1 ⟨rfl, rfl⟩)
  go_quiet (fail)
  all_goals go_wp2_with fail
  all_goals
    go_ret3
    exact ⟨⟨_, _, _, rfl, HR.out⟩, below_drewN ((Below.refl _ _).alloc (Nat.le_refl _) _) _⟩
def TApp (F : Fp) (z n : Nat) (f : Tab) (w : World) (e : Ending) (w' : World) : Prop := e = .returned (.int .i64 0) ∧ Tb w' F z n f ∧ Mod F w w'
theorem app_take {f : Tab} {os : List Op3} {j : Nat} {o : Op3} (h : os[j]? = some o) : f.app (os.take (j + 1)) = (f.app (os.take j)).put o := by
  rw [List.take_add_one, h]
  simp [Tab.app]
theorem blk_gb_ne {w w' : World} {g b : Nat} {t : TypeId} {cs : Array Value} (h : Blk w g t cs) (hg : w.grownBy w' (some b)) {es : Array MapEntry} {clock : Nat} (hb : w.heap[b]? = some (.map es clock)) : Blk w' g t cs :=
  h.gb hg fun e => by
    injection e with e
    subst e
    unfold Blk at h
    rw [h] at hb
    cases hb
set_option maxHeartbeats 2000000 in
set_option maxRecDepth 100000 in
theorem tapply33 {w : World} {F G : Fp} {z n : Nat} {f : Tab} (h : Tb w F z n f) {A : Option Addr} {k c : Nat} {os : List Op3} (ho : RdF w G 3 A k (opc os)) (hl : os.length = k) (hd : Dj G F) (hok : ∀ o ∈ os, o.ok) (hn : n + k ≤ 1000000000) :
    Calls Tryz.prog 33 #[P z, .slice A k c] w (TApp F z (n + k) (f.app os) w) := by
  have hos : OS w w.heap.size A k os := ⟨ho.rd (by decide), hl⟩
  have hnn : Calls Tryz.prog 69 #[P z] w (Asked false w) := by
    obtain ⟨b, D, inz, inb, blk, own, hD⟩ := h
    exact tnone69 blk
  have HT := hid h
  have HO := hid ho
  have HL := hid hl
  have HD := hid hd
  have HOK := hid hok
  clear h ho hd hok
  go_enter Tryz.func33, Tryz.ntmps33
  go_wp2_with (go_at_call 69; (with_reducible refine hnn.mono ?_); rintro e' w1 ⟨rfl, rfl⟩)
  go_loopg [13] k (fun g i wr => ∃ j : Nat, j ≤ k ∧ g = k - j ∧ i = .int .i64 j ∧ Below w.heap.size w wr)
  case atStart => exact ⟨0, by omega, rfl, rfl, Below.refl _ _⟩
  case round =>
    obtain ⟨j, hj, rfl, rfl, hb⟩ := hrel
    have hsz := hb.size
    by_cases hlt : j < k
    · have hw := hos.keep hb
      obtain ⟨b, off, p, kk, v, rfl, hbB, ho, c0, c1, c2⟩ := hw.at_ hlt
      have hji : (j : Int) < (k : Int) := by omega
      have hop := opcheck55 ⟨p, kk, v⟩ (wr.alloc (.cells #[.bool p, .string kk, .string v] 77))
      rw [show opk ⟨p, kk, v⟩ = 0 from if_pos (HOK.out _ (List.mem_of_getElem? ho))] at hop
      have HB2 := hid (hb.alloc hsz (.cells #[.bool p, .string kk, .string v] 77))
      clear ho hw hb
      go_wp2_with (go_at_call 70; refine stop_ (fun Ps hPs => ?_))
      refine hPs ?_
      clear hPs Ps
      refine hop.mono ?_
      clear hop
      rintro e w2 ⟨rfl, hb3⟩
      have hb4 := bl_trans HB2.out hb3 (by simp; omega)
      clear hb3 c0 c1 c2
      go_wp2_with fail
      go_roundg (k - (j + 1))
      case measure => omega
      case rel => exact ⟨j + 1, by omega, rfl, by go_num, hb4⟩
    · obtain rfl : j = k := by omega
      have HB1 := hid hb
      have HT1 := hid (HT.out.mv (bmv hb F))
      have HO1 := hid (HO.out.mv (bmv hb G))
      clear hb hos hj hlt
      go_wp2_with fail
      go_loopg [23] j (fun g i wr => ∃ m : Nat, m ≤ j ∧ g = j - m ∧ i = .int .i64 m ∧ Hid (Tb wr F z (n + m) (f.app (os.take m))) ∧ Hid (Mod F w wr))
      case atStart => exact ⟨0, by omega, rfl, rfl, HT1, hid (Mod.of_below HB1.out)⟩
      case round =>
        obtain ⟨m, hm, rfl, rfl, ht, hmd⟩ := hrel
        by_cases hlt : m < j
        · obtain ⟨b, off, p, kk, v, rfl, hbB, ho, c0, c1, c2⟩ := OS.at_ ⟨(HO.out.mv (hmd.out.mv HD.out)).rd (by decide), HL.out⟩ hlt
          have hji : (m : Int) < (j : Int) := by omega
          obtain ⟨b', D, inz, inb, blk, own, hD⟩ := ht.out
          have hks : kk.size ≤ maxLen := by have := (HOK.out _ (List.mem_of_getElem? ho)).2.1; simp only at this; unfold maxLen; omega
          obtain ⟨W, hW⟩ : ∃ W, W = wr.alloc (.cells #[.bool p, .string kk, .string v] 77) := ⟨_, rfl⟩
          have blk1 : Blk W z 134 #[.map (some b')] := by rw [hW]; exact blk.alloc _
          have own1 : W.ownsMap Tryz.prog 9 leftE b' (n + m) D := by rw [hW]; exact own.alloc _
          have k77 : Blk W wr.heap.size 77 #[.bool p, .string kk, .string v] := by rw [hW]; exact Blk.new _ _ _
          obtain ⟨w', hrun, own', hgb⟩ := own1.drew.update keyed9 Tryz.underlying132 (by unfold maxLen; omega) (WideMaps.keyOf_string_mk Tryz.underlying9 hks) (leftE_mk v p)
          obtain ⟨es, clock, hbm, _⟩ := own1
          have blk2 : Blk w' z 134 #[.map (some b')] := blk_gb_ne (w := W.drew) blk1 hgb hbm
          have k772 : Blk w' wr.heap.size 77 #[.bool p, .string kk, .string v] := blk_gb_ne (w := W.drew) k77 hgb hbm
          have z0 : W.drew.cell? ⟨z, 0, none⟩ = some (.map (some b')) := blk1.cell 0
          have y0 : W.drew.cell? ⟨wr.heap.size, 0, none⟩ = some (.bool p) := k77.cell 0
          have y1 : W.drew.cell? ⟨wr.heap.size, 1, none⟩ = some (.string kk) := k77.cell 1
          have y2 : W.drew.cell? ⟨wr.heap.size, 2, none⟩ = some (.string v) := k77.cell 2
          have z0' : w'.cell? ⟨z, 0, none⟩ = some (.map (some b')) := blk2.cell 0
          have y0' : w'.cell? ⟨wr.heap.size, 0, none⟩ = some (.bool p) := k772.cell 0
          have y1' : w'.cell? ⟨wr.heap.size, 1, none⟩ = some (.string kk) := k772.cell 1
          have y2' : w'.cell? ⟨wr.heap.size, 2, none⟩ = some (.string v) := k772.cell 2
          have HT2 : Hid (Tb w' F z (n + (m + 1)) (f.app (os.take (m + 1)))) := by
            rw [app_take ho]
            exact ⟨b', _, inz, inb, blk2, own', hD.put ⟨p, kk, v⟩⟩
          have HM2 : Hid (Mod F w w') := by
            refine hid (hmd.out.trans_ ?_)
            rw [hW] at hgb
            exact ((Mod.alloc F wr _).trans_ (Mod.drewN F _ 1)).trans_ (Mod.grown hgb fun g e => by injection e with e; rw [← e]; exact inb)
          clear own own' hgb hbm hD ht hmd ho hks inz inb blk k77 blk1 blk2 k772
          go_wp2_with fail
          rw [← hW]
          clear hW
          go_region_held3 (fun w' => w'.cell? ⟨z, 0, none⟩ = some (.map (some b')) ∧ w'.cell? ⟨wr.heap.size, 0, none⟩ = some (.bool p) ∧ w'.cell? ⟨wr.heap.size, 1, none⟩ = some (.string kk) ∧ w'.cell? ⟨wr.heap.size, 2, none⟩ = some (.string v)) (first | exact ⟨z0, y0, y1, y2⟩ | exact ⟨z0', y0', y1', y2'⟩) (fail)
          all_goals go_wp2_with fail
          all_goals
            go_roundg (j - (m + 1))
            case measure => omega
            case rel => exact ⟨m + 1, by omega, rfl, by go_num, HT2, HM2⟩
        · obtain rfl : m = j := by omega
          have HTE := ht
          have HME := hmd
          rw [List.take_of_length_le (by rw [HL.out]; exact Nat.le_refl _)] at HTE
          go_wp2_with fail
          go_ret
          exact ⟨rfl, HTE.out, HME.out⟩
end Go.Proofs.YtbpnbcjgkbpmgaaGreat
namespace Go.Proofs.YtbpnbcjgkbpmgaaGreat
open Go.RowKit Go.Lg Ds
set_option linter.unusedVariables false
set_option linter.unusedSimpArgs false
section
variable {w w' : World} {tag : Nat → Nat} {z : Nat} {d d' : Dsk} {st st' : Int} {V V' : Nat → Value} {pv pv' : Value} {ps ps' : List Sp} {F : Fp}
theorem Dt.own (h : Dt w tag z d st V pv ps) (m : Mod (fun k => tag k = 1) w w') (hb : Blk w' z 128 (dcs d' st' V pv)) (hd : d'.dur = d.dur) (hp : d'.pend = d.pend) : Dt w' (tg w tag 1) z d' st' V pv ps := by
  obtain ⟨_, h2, h3, h4⟩ := h.part m
  exact ⟨⟨hb, tg_old h.blk.2⟩, fun f hf => by rw [hd]; exact h2 f hf (by omega), h3 (by decide), by rw [hp]; exact h.hps, h4 (by decide)⟩
theorem Dt.dleft {i : Nat} (hF : ∀ k, tag k ≠ 0 → F k) (h0 : i ≠ 0) (m : Mod (fun k => tag k = i) w w') (h : Dt w' (tg w tag i) z d' st' V' pv' ps') : DLeft F z d' w w' :=
  ⟨fun k => F k ∨ w.heap.size ≤ k, ⟨_, _, _, _, _, tg_sub hF i, h⟩, m.more fun k hk => hF k (by omega), fun k hk => hk⟩
theorem DLeft.same (h : Dk w F z d) : DLeft F z d w w := ⟨F, h, Mod.refl _ _, Sub.refl _ _⟩
theorem DLeft.trans {w2 : World} {d2 : Dsk} (h : DLeft F z d' w w') (k : ∀ F', Dk w' F' z d' → Sub w F F' → DLeft F' z d2 w' w2) : DLeft F z d2 w w2 := by
  obtain ⟨F', h1, h2, h3⟩ := h
  obtain ⟨F2, k1, k2, k3⟩ := k F' h1 h3
  exact ⟨F2, k1, h2.trans k2 h3, h3.trans k3 h2.size⟩
end
def Burnt (F : Fp) (z : Nat) (r : Bool × Dsk) (w : World) (e : Ending) (w' : World) : Prop := e = .returned (.bool r.1) ∧ DLeft F z r.2 w w'
set_option maxHeartbeats 2000000 in
set_option maxRecDepth 100000 in
theorem burn169 {w : World} {F : Fp} {z : Nat} {d : Dsk} (h : Dk w F z d) (hok : d.ok) : Calls Tryz.prog 169 #[P z] w (Burnt F z d.burn w) := by
  obtain ⟨tag, st, V, pv, ps, hF, ht⟩ := h
  have hfu := hok.fuse
  obtain ⟨c0, c1, c2, c3, c4, _⟩ := dcells ht.blk.1
  have hbk := hid ht.blk.1
  have hz : tag z = 1 := ht.blk.2
  have HT := hid ht
  have HF := hid hF
  have f1 := hbk.out.frozen 1
  have f3 := hbk.out.frozen 3
  have f4 := hbk.out.frozen 4
  clear ht hF
  obtain ⟨off, fused, fuse, dur, pend⟩ := d
  have HZ := hid hz
  clear hz
  simp only at hfu
  cases fused with
  | true =>
    by_cases h0 : fuse = 0
    · subst h0
      go_enter Tryz.func169, Tryz.ntmps169
      go_wp2_with fail
      go_ret
      have m : Mod (fun k => tag k = 1) w (w.setCell ⟨z, 1, none⟩ (.bool true)) := Mod.setCell (p := ⟨z, 1, none⟩) HZ.out _
      exact ⟨rfl, Dt.dleft HF.out (by decide) m (HT.out.own m (hbk.out.set_ 1 (.bool true)) rfl rfl)⟩
    · have q : (fuse == 0) = false := by simpa using h0
      have HR : Hid ((Dsk.mk off true fuse dur pend).burn = (true, ⟨off, true, fuse - 1, dur, pend⟩)) := by simp [Hid, Dsk.burn, h0]
      have H0 := hid h0
      clear h0
      go_enter Tryz.func169, Tryz.ntmps169
      go_wp2_with fail
      go_ret
      rw [HR.out]
      have m : ∀ x y, Mod (fun k => tag k = 1) w ((w.setCell ⟨z, 3, none⟩ x).setCell ⟨z, 4, none⟩ y) := fun x y => (Mod.setCell (p := ⟨z, 3, none⟩) HZ.out _).trans_ (Mod.setCell (p := ⟨z, 4, none⟩) HZ.out _)
      exact ⟨rfl, Dt.dleft HF.out (by decide) (m _ _) (HT.out.own (m _ _) ((hbk.out.set_ 3 _).set_ 4 _) rfl rfl)⟩
  | false =>
    have HR : Hid ((Dsk.mk off false fuse dur pend).burn = (true, ⟨off, false, fuse, dur, pend⟩)) := by simp [Hid, Dsk.burn]
    go_enter Tryz.func169, Tryz.ntmps169
    go_wp2_with fail
    go_ret
    rw [HR.out]
    have m : ∀ y, Mod (fun k => tag k = 1) w (w.setCell ⟨z, 4, none⟩ y) := fun y => (Mod.setCell (p := ⟨z, 4, none⟩) HZ.out _)
    exact ⟨rfl, Dt.dleft HF.out (by decide) (m _) (HT.out.own (m _) (hbk.out.set_ 4 _) rfl rfl)⟩
def Done (Fb : Fp) (v : Value) (l : Bs) (w : World) (e : Ending) (w' : World) : Prop :=
  ∃ v', e = .returned v' ∧ Sl w' (fun k => Fb k ∨ w.heap.size ≤ k) 5 1 v' l.length (bts l) ∧ w.grownBy w' v.ownBlock ∧ (∀ g, v'.ownBlock = some g → v.ownBlock = some g ∨ w.heap.size ≤ g)
theorem done_eq {Fb : Fp} {v v' : Value} {l l' : Bs} {n : Nat} {w w' : World} (hl : l = l') (hn : l'.length = n) (h1 : Sl w' (fun k => Fb k ∨ w.heap.size ≤ k) 5 1 v' n (bts l')) (h2 : w.grownBy w' v.ownBlock) (h3 : ∀ g, v'.ownBlock = some g → v.ownBlock = some g ∨ w.heap.size ≤ g) : Done Fb v l w (.returned v') w' := by
  subst hl hn
  exact ⟨v', rfl, h1, h2, h3⟩
set_option maxHeartbeats 2000000 in
set_option maxRecDepth 100000 in
theorem done105 {w : World} {Fb G : Fp} {v : Value} {n : Nat} {l : Bs} {s : Sp} (h : Sl w Fb 5 1 v n (bts l)) (hb : RdF w G 1 s.A s.n (bts s.b)) (hs : n + s.n ≤ 35184372088832) (hc : s.wr = false → s.len ≤ n) :
    Calls Tryz.prog 105 #[v, s.v] w (Done Fb v (done l s.p) w) := by
  obtain ⟨wr, file, A, m, c, b, len⟩ := s
  simp only at hb hs hc
  have hln : l.length = n := by simpa using h.1
  have hbn : b.length = m := by simpa using hb.1
  cases wr with
  | true =>
    have HR : Hid (done l ⟨true, file, b, len⟩ = l ++ b) := hid rfl
    have HL : Hid ((l ++ b).length = n + m) := by rw [List.length_append, hln, hbn]; exact hid rfl
    clear hc hln hbn
    show Calls Tryz.prog 105 #[v, .agg #[.int .i64 0, .int .i64 (file : Nat), .slice A m c, .int .i64 (len : Nat)]] w _
    have ba : Below w.heap.size w (w.alloc (.cells #[.int .i64 0, .int .i64 (file : Nat), .slice A m c, .int .i64 (len : Nat)] 175)) := (Below.refl _ _).alloc (Nat.le_refl _) _
    go_enter Tryz.func105, Tryz.ntmps105
    go_wp2_with (at_builtin; refine stop_ (fun Ps hPs => ?_))
    refine hPs ?_
    clear hPs Ps
    refine wpList_appS T80 (.tmp 9) (.tmp 11) rfl rfl (h.later ba) rfl (hb.mv (bmv ba G)) rfl (bts_one b) (by omega) fun v1 w1 hown hg hat => ?_
    have HO := hid hown
    have HG := hid hg
    have HA := hid hat
    clear hown hg hat
    go_wp2_with fail
    go_ret
    refine done_eq HR.out HL.out ?_ (grownBy_after_alloc HG.out) (fun g hg => ?_)
    · rw [bts_append]
      exact HO.out.to fun k hk => by
        rcases hk with h5 | h5
        · exact .inl h5
        · exact .inr (by simp at h5; omega)
    · rcases HA.out g hg with h5 | h5
      · exact .inl h5
      · exact .inr (by simp at h5; omega)
  | false =>
    have hc := hc rfl
    have HR : Hid (done l ⟨false, file, b, len⟩ = l.take len) := hid rfl
    have HL : Hid ((l.take len).length = len) := by rw [List.length_take, hln]; exact hid (by omega)
    have HB : Hid ((bts l).take (len * 1) = bts (l.take len)) := by rw [Nat.mul_one, bts_take]; exact hid rfl
    clear hln hbn
    show Calls Tryz.prog 105 #[v, .agg #[.int .i64 1, .int .i64 (file : Nat), .slice A m c, .int .i64 (len : Nat)]] w _
    have ba : Below w.heap.size w (w.alloc (.cells #[.int .i64 1, .int .i64 (file : Nat), .slice A m c, .int .i64 (len : Nat)] 175)) := (Below.refl _ _).alloc (Nat.le_refl _) _
    obtain ⟨A0, c0, rfl, g1, g2⟩ := h.slice_
    unfold maxLen at g2
    have hlc : (len : Int) ≤ (c0 : Int) := by omega
    have hf := (h.later ba).front hc (c' := c0) (by omega) (Nat.le_refl _)
    rw [HB.out] at hf
    have HF := hid hf
    clear hf
    go_enter Tryz.func105, Tryz.ntmps105
    go_wp2_with fail
    go_ret
    exact done_eq HR.out HL.out (HF.out.to fun k hk => .inl hk) (World.grownBy_alloc _ _ _) (fun g hg => .inl (by cases A0 <;> exact hg))
end Go.Proofs.YtbpnbcjgkbpmgaaGreat
