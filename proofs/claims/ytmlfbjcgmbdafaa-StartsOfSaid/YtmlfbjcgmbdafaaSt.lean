/- The starts of commits. -/
import Derived.Test.YtmlfbjcgmbdafaaSr
namespace Go.Proofs.Ytmlfbjcgmbdafaa
open Go.RowKit Go.Lg
set_option linter.unusedVariables false
set_option linter.unusedSimpArgs false

/-- The starts of commits. -/
def tl (cs : List Cm) : List (Int × Int) := cs.foldl (fun acc m => gr acc m.ep m.num) []
theorem tl_snoc (cs : List Cm) (m : Cm) : tl (cs ++ [m]) = gr (tl cs) m.ep m.num := by simp [tl]
theorem gr_le (l : List (Int × Int)) (ep num : Int) : (gr l ep num).length ≤ l.length + 1 := by
  unfold gr
  split
  · omega
  · simp
theorem tl_le (cs : List Cm) : (tl cs).length ≤ cs.length := by
  have key : ∀ (cs : List Cm) (acc : List (Int × Int)), (cs.foldl (fun acc m => gr acc m.ep m.num) acc).length ≤ acc.length + cs.length := by
    intro cs
    induction cs with
    | nil => intro acc; simp
    | cons m cs ih =>
      intro acc
      have h1 := ih (gr acc m.ep m.num)
      have h2 := gr_le acc m.ep m.num
      simp only [List.foldl_cons, List.length_cons]
      omega
  simpa [tl] using key cs []
theorem owned_gb_far' {w w' : World} {g H : Nat} {e : TypeId} {sz n : Nat} {v : Value} {xs : List Value} (h : w.ownsRow H e sz v n xs) (hg : w.grownBy w' (some g)) (hlt : g < H) : w'.ownsRow H e sz v n xs :=
  owned_gb h hg fun k hk he => by have := (h.lt k hk).1; have := Option.some.inj he; omega
def OfIs (L : List (Int × Int)) (w : World) (e : Ending) (w' : World) : Prop := ∃ v, e = .returned (.tuple #[v, .agg #[.int .i64 0, .int .i64 0]]) ∧ w'.ownsRow w.heap.size 58 2 v L.length (sts L) ∧ Below w.heap.size w w'

set_option maxHeartbeats 4000000 in
set_option maxRecDepth 100000 in
theorem of24_ok (A : Option Addr) (n c : Nat) (cs : List Cm) (w : World) (h : CS w w.heap.size A n cs) (hn : n ≤ 10000) (hf : fol 0 0 0 cs = (0, 0)) :
    Calls Try.prog 24 #[.slice A n c] w (OfIs (tl cs) w) := by
  have HL := hid h.2.1
  have kz := Blk.new w 44 #[.int .i64 0, .int .i64 0]
  have hb := (Below.refl w.heap.size w).alloc (Nat.le_refl _) (.cells #[.int .i64 0, .int .i64 0] 44)
  obtain ⟨W, hW⟩ : ∃ W, W = w.alloc (.cells #[.int .i64 0, .int .i64 0] 44) := ⟨_, rfl⟩
  have hWs : W.heap.size = w.heap.size + 1 := by rw [hW]; simp
  rw [← hW] at kz hb
  have hfo := follows37 A n c cs 0 0 W ((h.keep hb).more (by omega)) (by omega)
  rw [hf] at hfo
  have hfo : Calls Try.prog 37 #[.int .i64 0, .int .i64 0, .slice A n c] W fun e w' => e = .returned (.agg #[.int .i64 0, .int .i64 0]) ∧ Below W.heap.size W w' := hfo
  go_enter Try.func24, Try.ntmps24
  go_wp2_with (go_at_call 37; refine stop_ (fun Ps hPs => ?_))
  refine hPs ?_
  clear hPs Ps
  rw [← hW]
  clear hW
  refine hfo.mono ?_
  clear hfo
  rintro e w1 ⟨rfl, hb1⟩
  have kz := (kz.later hb1).alloc (.cells #[.int .i64 0, .int .i64 0] 44)
  have hs1 := hb1.size
  have hb := (bl_trans hb hb1 hb.size).alloc (by omega) (.cells #[.int .i64 0, .int .i64 0] 44)
  have kf := Blk.new w1 44 #[.int .i64 0, .int .i64 0]
  have f0 : (w1.alloc (.cells #[.int .i64 0, .int .i64 0] 44)).cell? ⟨w1.heap.size, 0, none⟩ = some (.int .i64 0) := kf.cell 0
  have hV9 : w.heap.size + 1 ≤ (w1.alloc (.cells #[.int .i64 0, .int .i64 0] 44)).heap.size := by simp; omega
  obtain ⟨V, hV⟩ : ∃ V, V = w1.alloc (.cells #[.int .i64 0, .int .i64 0] 44) := ⟨_, rfl⟩
  go_wp2_with fail
  rw [← hV] at kz hb hV9
  rw [← hV]
  clear hV kf f0
  go_loopg [5, 16] n (fun k v i wr => ∃ j : Nat, j ≤ n ∧ k = n - j ∧ i = .int .i64 j ∧ wr.ownsRow (w.heap.size + 1) 58 2 v (tl (cs.take j)).length (sts (tl (cs.take j))) ∧ Below w.heap.size w wr ∧ Blk wr w.heap.size 44 #[.int .i64 0, .int .i64 0] ∧ w.heap.size + 1 ≤ wr.heap.size)
  case atStart => exact ⟨0, by omega, rfl, rfl, World.ownsRow_nil _ _ _ _, hb, kz, hV9⟩
  case round =>
    clear hb kz hV9
    obtain ⟨j, hj, rfl, rfl, ho, hb, kz, hs⟩ := hrel
    have hsz := hb.size
    by_cases hlt : j < n
    · have hw := h.keep hb
      obtain ⟨b, off, me, mn, Ao, no, co, os, rfl, hbB, hcj, hos, hno, c0, c1, c2⟩ := hw.at_ hlt
      have hji : (j : Int) < (n : Int) := by omega
      have HTL : Hid (tl (cs.take (j + 1)) = gr (tl (cs.take j)) me mn) := by
        rw [take_succ_get? hcj, tl_snoc]
        exact hid rfl
      have hln : (tl (cs.take j)).length ≤ 10000 := by
        have := tl_le (cs.take j)
        rw [List.length_take] at this
        omega
      have ho2 := ho.alloc (.cells #[.int .i64 me, .int .i64 mn, .slice Ao no co] 40)
      have hg := grown38 (w.heap.size + 1) _ _ (tl (cs.take j)) ⟨me, mn, Ao, no, co, os⟩ (wr.alloc (.cells #[.int .i64 me, .int .i64 mn, .slice Ao no co] 40)) ho2 rfl (by simp; omega) (by omega)
      have hb2 := hb.alloc hsz (.cells #[.int .i64 me, .int .i64 mn, .slice Ao no co] 40)
      have kz2 := kz.alloc (.cells #[.int .i64 me, .int .i64 mn, .slice Ao no co] 40)
      obtain ⟨lj, hlj⟩ : ∃ l, l = tl (cs.take j) := ⟨_, rfl⟩
      rw [← hlj] at hg
      have HB2 := hid hb2
      have HK2 := hid kz2
      have HLJ := hid hlj
      have hs3 : w.heap.size + 1 ≤ (wr.alloc (.cells #[.int .i64 me, .int .i64 mn, .slice Ao no co] 40)).heap.size := by simp; omega
      have HS3 := hid hs3
      clear hw hcj hos ho ho2 hb hb2 kz kz2 hlj hs3
      go_wp2_with (go_at_call 38; refine stop_ (fun Ps hPs => ?_))
      refine hPs ?_
      clear hPs Ps
      refine hg.mono ?_
      clear hg
      rintro e w2 ⟨v2, rfl, ho3, hb3⟩
      have hb4 := HB2.out.trans (hb3.mono (by omega))
      have kz4 := HK2.out.below hb3 (Nat.lt_succ_self _)
      have hs4 := Nat.le_trans HS3.out hb3.size
      have HO3 := hid ho3
      have HB4 := hid hb4
      have HK4 := hid kz4
      clear ho3 hb3 hb4 kz4 c0 c1 c2
      go_wp2_with fail
      go_roundg (n - (j + 1))
      case measure => omega
      case rel =>
        refine ⟨j + 1, by omega, rfl, by go_num, ?_, HB4.out, HK4.out, hs4⟩
        rw [HTL.out, ← HLJ.out]
        exact HO3.out
    · obtain rfl : j = n := by omega
      have htk : cs.take j = cs := List.take_of_length_le (by rw [HL.out]; omega)
      rw [htk] at ho
      have hg2 := gb_setCell (p := ⟨w.heap.size, 1, none⟩) (.int .i64 0) (gb_setCell (p := ⟨w.heap.size, 0, none⟩) (.int .i64 0) (World.grownBy.refl wr (some w.heap.size)))
      have ho2 := owned_gb_far' ho hg2 (Nat.lt_succ_self _)
      have e0 : wr.cell? ⟨w.heap.size, 0, none⟩ = some (.int .i64 0) := kz.cell 0
      have e1 : wr.cell? ⟨w.heap.size, 1, none⟩ = some (.int .i64 0) := kz.cell 1
      have y0 := kz.frozen 0
      have y1 := kz.frozen 1
      have y2 : (wr.setCell ⟨w.heap.size, 0, none⟩ (.int .i64 0)).frozen? ⟨w.heap.size, 1, none⟩ = false := (kz.set_ 0 (.int .i64 0)).frozen 1
      have HO := hid (owned_less ho2 (Nat.le_succ w.heap.size))
      have HB := hid hb
      clear kz ho ho2 htk hg2 hb
      go_wp2_with fail
      refine bodyPost_ret (by simp [results, Try.results24, go_sem, e0, e1]; try rfl) rfl ?_
      exact ⟨_, rfl, HO.out, below_two HB.out (Nat.le_refl _) _ _⟩
end Go.Proofs.Ytmlfbjcgmbdafaa
