/- A link that is not there, or that nobody made. -/
import Derived.Test.YtigedoonhmaghaaRbF
namespace Go.Proofs.Ytigedoonhmaghaa
open Go.RowKit Go.Lg
set_option linter.unusedVariables false
set_option linter.unusedSimpArgs false

/-- No link. -/
def Nl (w : World) (p : Value) : Prop := p = .pointer none ∨ ∃ z, p = P z ∧ z < w.heap.size ∧ w.cell? ⟨z, 0, none⟩ = some (.bool false)
theorem Nl.later {w w' : World} {p : Value} (h : Nl w p) (hb : Below w.heap.size w w') : Nl w' p := by
  rcases h with h | ⟨z, h1, h2, h3⟩
  · exact .inl h
  · exact .inr ⟨z, h1, Nat.lt_of_lt_of_le h2 hb.size, (hb.cell (p := ⟨z, 0, none⟩) h2).trans h3⟩
theorem Nl.none {w : World} {p : Value} (h : Nl w p) : Calls Try.prog 27 #[p] w (Says true w) := by
  rcases h with rfl | ⟨z, rfl, _, h3⟩
  · exact none27_nil w
  · exact none27_un w z h3
def Got1 (v : Value) (w : World) (e : Ending) (w' : World) : Prop := e = .returned v ∧ w' = w
def Got2 (v : Value) (w : World) (e : Ending) (w' : World) : Prop := e = .returned v ∧ Below w.heap.size w w'
set_option maxRecDepth 100000 in
set_option maxHeartbeats 2000000 in
theorem send10_nil {w : World} {p : Value} (h : Nl w p) (to : Int) (A : Option Addr) (n c : Nat) : Calls Try.prog 10 #[p, .int .i64 to, .slice A n c] w (Got1 (two 0 1) w) := by
  have HN := hid h.none
  clear h
  go_enter Try.func10, Try.ntmps10
  go_wp2_with (go_at_call 27; refine HN.out.mono ?_; rintro e w1 ⟨rfl, rfl⟩)
  refine bodyPost_ret (results_tmp2 rfl _ _ _) rfl ?_
  exact ⟨rfl, rfl⟩
set_option maxRecDepth 100000 in
set_option maxHeartbeats 2000000 in
theorem twice11_nil {w : World} {p : Value} (h : Nl w p) (n : Int) : Calls Try.prog 11 #[p, .int .i64 n] w (Got1 (two 0 1) w) := by
  have HN := hid h.none
  clear h
  go_enter Try.func11, Try.ntmps11
  go_wp2_with (go_at_call 27; refine HN.out.mono ?_; rintro e w1 ⟨rfl, rfl⟩)
  refine bodyPost_ret (results_tmp2 rfl _ _ _) rfl ?_
  exact ⟨rfl, rfl⟩
set_option maxRecDepth 100000 in
set_option maxHeartbeats 2000000 in
theorem flight21_nil {w : World} {p : Value} (h : Nl w p) : Calls Try.prog 21 #[p] w (Got1 (.slice none 0 0) w) := by
  have HN := hid h.none
  clear h
  go_enter Try.func21, Try.ntmps21
  go_wp2_with (go_at_call 27; refine HN.out.mono ?_; rintro e w1 ⟨rfl, rfl⟩)
  go_ret
  exact ⟨rfl, rfl⟩
set_option maxRecDepth 100000 in
set_option maxHeartbeats 2000000 in
theorem taken30_nil {w : World} {p : Value} (h : Nl w p) (n : Int) : Calls Try.prog 30 #[p, .int .i64 n] w (Got2 (lv nolt 1) w) := by
  have hb := (Below.refl w.heap.size w).alloc (Nat.le_refl _) (.cells zc 31)
  have kr := Blk.new w 31 zc
  have hN := (h.later hb).none
  have HN := hid hN
  have HB := hid hb
  have r0 : (w.alloc (.cells #[.int .i64 0, .int .i64 0, .slice none 0 0] 31)).cell? ⟨w.heap.size, 0, none⟩ = some (.int .i64 0) := kr.cell 0
  have r1 : (w.alloc (.cells #[.int .i64 0, .int .i64 0, .slice none 0 0] 31)).cell? ⟨w.heap.size, 1, none⟩ = some (.int .i64 0) := kr.cell 1
  have r2 : (w.alloc (.cells #[.int .i64 0, .int .i64 0, .slice none 0 0] 31)).cell? ⟨w.heap.size, 2, none⟩ = some (.slice none 0 0) := kr.cell 2
  clear h hN hb kr
  go_enter Try.func30, Try.ntmps30
  go_wp2_with (go_at_call 27; refine HN.out.mono ?_; rintro e w1 ⟨rfl, rfl⟩)
  refine bodyPost_ret (by simp [results, Try.results30, go_sem, r0, r1, r2]; try rfl) rfl ?_
  exact ⟨rfl, HB.out⟩
set_option maxRecDepth 100000 in
set_option maxHeartbeats 2000000 in
theorem deliver12_nil {w : World} {p : Value} (h : Nl w p) (n : Int) : Calls Try.prog 12 #[p, .int .i64 n] w (Got2 (lv nolt 1) w) := by
  have hb := (Below.refl w.heap.size w).alloc (Nat.le_refl _) (.cells zc 31)
  have kr := Blk.new w 31 zc
  obtain ⟨W, hW⟩ : ∃ W, W = w.alloc (.cells zc 31) := ⟨_, rfl⟩
  rw [← hW] at hb kr
  have hW' : W = w.alloc (.cells #[.int .i64 0, .int .i64 0, .slice none 0 0] 31) := hW
  have HT := hid (taken30_nil (h.later hb) n)
  have HB := hid hb
  have KR := hid kr
  clear h hb kr hW
  go_enter Try.func12, Try.ntmps12
  go_wp2_with (go_at_call 30; refine stop_ (fun Ps hPs => ?_))
  refine hPs ?_
  clear hPs Ps
  rw [← hW']
  clear hW'
  refine HT.out.mono ?_
  rintro e w2 ⟨rfl, hb2⟩
  have hR2 := KR.out.later hb2
  have r0 : w2.cell? ⟨w.heap.size, 0, none⟩ = some (.int .i64 0) := hR2.cell 0
  have r1 : w2.cell? ⟨w.heap.size, 1, none⟩ = some (.int .i64 0) := hR2.cell 1
  have r2 : w2.cell? ⟨w.heap.size, 2, none⟩ = some (.slice none 0 0) := hR2.cell 2
  have y0 := hR2.frozen 0
  have y1 := hR2.frozen 1
  have y2 := hR2.frozen 2
  have HB2 := hid (HB.out.trans (hb2.mono HB.out.size))
  clear hR2 hb2
  simp only [lv, nolt]
  go_wp2_with fail
  refine bodyPost_ret (by simp [results, Try.results12, go_sem, r0, r1, r2]; try rfl) rfl ?_
  exact ⟨rfl, ((HB2.out.setCell (p := ⟨w.heap.size, 0, none⟩) (Nat.le_refl _) _).setCell (p := ⟨w.heap.size, 1, none⟩) (Nat.le_refl _) _).setCell (p := ⟨w.heap.size, 2, none⟩) (Nat.le_refl _) _⟩
set_option maxRecDepth 100000 in
set_option maxHeartbeats 2000000 in
theorem drop13_nil {w : World} {p : Value} (h : Nl w p) (n : Int) : Calls Try.prog 13 #[p, .int .i64 n] w (Got2 (.int .i64 1) w) := by
  have HT := hid (taken30_nil h n)
  clear h
  go_enter Try.func13, Try.ntmps13
  go_wp2_with (go_at_call 30; refine stop_ (fun Ps hPs => ?_))
  refine hPs ?_
  clear hPs Ps
  refine HT.out.mono ?_
  rintro e w2 ⟨rfl, hb2⟩
  have HB2 := hid hb2
  clear hb2
  simp only [lv, nolt]
  go_wp2_with fail
  go_ret
  exact ⟨rfl, HB2.out.alloc HB2.out.size _⟩
theorem all26_nil {w : World} {p : Value} (h : Nl w p) : Calls Try.prog 26 #[p] w (Gives [] w) :=
  all26 p [] w (by simp) ((flight21_nil h).mono fun e w' k => ⟨.slice none 0 0, [], k.1, World.ownsRow_nil _ _ _ _, rfl, (fun x hx => absurd hx List.not_mem_nil), by rw [k.2]; exact Below.refl _ _⟩)
end Go.Proofs.Ytigedoonhmaghaa
