/- Links: All goes over the numbers in flight: slices.Values, its iterator. -/
import Derived.Test.YtigedoonhmaghaaAcF
namespace Go.Proofs.Ytigedoonhmaghaa
open Go.RowKit Go.Lg
variable {F : Nat}
set_option linter.unusedVariables false
set_option linter.unusedSimpArgs false

def nums (l : List Int) : List Value := l.map (Value.int .i64)
theorem nums_snoc (l : List Int) (x : Int) : nums (l ++ [x]) = nums l ++ [.int .i64 x] := by simp [nums]
theorem nums_length (l : List Int) : (nums l).length = l.length := by simp [nums]
theorem Try.info3 : (Try.prog.info? 3).map (fun i => (i.zero, i.size, i.bytes)) = some (some (.int .i64 0), 1, 8) := by kernel_rfl
theorem T65 : SlT Try.prog 65 3 1 8 := SlT.mk' _ Try.underlying65 Try.info3 rfl (by decide) (by decide)
set_option maxHeartbeats 1000000 in
set_option maxRecDepth 100000 in
theorem values41 (a : Option Addr) (len cap : Nat) (w : World) : Calls Try.prog 41 #[.slice a len cap] w fun e w' => e = .returned (.func (.func 47) #[] #[.pointer (some ⟨w.heap.size, 0, none⟩)]) ∧ w' = w.alloc (.cells #[.slice a len cap] 65) := by
  go_enter Try.func41, Try.ntmps41
  go_wp2_with fail
  go_ret
  exact ⟨rfl, rfl⟩
/-- The iterator that All tells. -/
def Gives (ns : List Int) (w : World) (e : Ending) (w' : World) : Prop :=
  ∃ Bs A cap, e = .returned (.func (.func 47) #[] #[.pointer (some ⟨Bs, 0, none⟩)]) ∧ w.heap.size ≤ Bs ∧ Bs < w'.heap.size ∧ w'.cell? ⟨Bs, 0, none⟩ = some (.slice A ns.length cap) ∧ Rd w' w'.heap.size 1 A ns.length (nums ns) ∧ ns.length ≤ cap ∧ cap ≤ maxLen ∧ Below w.heap.size w w'
set_option maxHeartbeats 4000000 in
set_option maxRecDepth 100000 in
/-- Behind Flight, whatever it tells. -/
theorem all26 (pv : Value) (ks : List Lt) (w : World) (hk5 : ks.length ≤ 512) (hF : Calls Try.prog 21 #[pv] w fun e w' => ∃ v ls', e = .returned v ∧ w'.ownsRow w.heap.size 31 3 v ls'.length (ltc ls') ∧ ls'.map Lt.k = ks.map Lt.k ∧ (∀ x ∈ ls', ∃ A c, x.v = .slice A x.b.length c) ∧ Below w.heap.size w w') :
    Calls Try.prog 26 #[pv] w (Gives ((ks.map Lt.k).map (·.1)) w) := by
  obtain ⟨H0, hH0⟩ : ∃ H0, H0 = w.heap.size := ⟨_, rfl⟩
  have HH := hid hH0
  have HF := hid hF
  clear hF hH0
  go_enter Try.func26, Try.ntmps26
  go_wp2_with (go_at_call 21; refine stop_ (fun Ps hPs => ?_))
  refine hPs ?_
  clear hPs Ps
  refine HF.out.mono ?_
  rintro e w2 ⟨v2, ls', rfl, ho2, hm2, hone, hb2⟩
  have hl : ls'.length = ks.length := by have := congrArg List.length hm2; simpa using this
  obtain ⟨A, c, rfl, hc1, hc2⟩ := owned_slice ho2
  obtain ⟨m, hm⟩ : ∃ m, m = ls'.length := ⟨_, rfl⟩
  have HM := hid hm
  have hm5 : m ≤ 512 := by omega
  rw [← hm] at ho2 hc1 ⊢
  rw [← HH.out] at ho2 hb2
  have HO := hid ho2
  have HB := hid hb2
  have H1 := hid hone
  have HK := hid hm2
  clear ho2 hb2 hone hm hl hm2 hk5
  go_wp2_with fail
  go_loopg [3, 5, 9] m (fun gg v b x9 wr => ∃ k : Nat, k ≤ m ∧ gg = m - k ∧ x9 = .int .i64 k ∧ Hid (wr.ownsRow H0 3 1 v k (nums ((ls'.map (·.n)).take k))) ∧ Hid (wr.ownsRow H0 31 3 (.slice A m c) m (ltc ls')) ∧ Hid (Below H0 w wr))
  case atStart => exact ⟨0, by omega, rfl, rfl, hid (World.ownsRow_nil _ _ _ _), HO, HB⟩
  case round =>
    obtain ⟨k, hk, rfl, rfl, HN, HOr, HBr⟩ := hrel
    by_cases hlt : k < m
    · obtain ⟨x, hx⟩ : ∃ x, ls'[k]? = some x := ⟨ls'[k]'(by rw [← HM.out]; exact hlt), List.getElem?_eq_getElem _⟩
      obtain ⟨g, off, rfl, hg, c0, c1, c2⟩ := ltAt (Rd.of_own HOr.out) hx
      obtain ⟨Ax, cx, hv⟩ := H1.out x (List.mem_of_getElem? hx)
      obtain ⟨xn, xt, xv, xb⟩ := x
      simp only at c0 c1 c2 hv
      subst hv
      have hki : (k : Int) < (m : Int) := by omega
      have hk0 : (0 : Int) ≤ (k : Int) := Int.natCast_nonneg _
      have hk5 : (k : Int) < 512 := by omega
      have hs : H0 ≤ wr.heap.size := by rw [HH.out]; exact HBr.out.size
      have hbX := (Below.refl wr.heap.size wr).alloc (Nat.le_refl _) (.cells #[.int .i64 xn, .int .i64 xt, .slice Ax xb.length cx] 31)
      have kx := Blk.new wr 31 #[.int .i64 xn, .int .i64 xt, .slice Ax xb.length cx]
      obtain ⟨X, hX⟩ : ∃ X, X = wr.alloc (.cells #[.int .i64 xn, .int .i64 xt, .slice Ax xb.length cx] 31) := ⟨_, rfl⟩
      rw [← hX] at hbX kx
      have HX := hid hx
      have HNX := hid (owned_later HN.out hbX)
      have HOX := hid (owned_later HOr.out hbX)
      have HBX := hid (HBr.out.trans (hbX.mono hs))
      have HS := hid (show H0 ≤ X.heap.size from Nat.le_trans hs hbX.size)
      clear hx hs hbX kx
      go_wp2_with (at_builtin; refine stop_ (fun Ps hPs => ?_))
      refine hPs ?_
      clear hPs Ps
      rw [← hX]
      have hsz : wr.heap.size + 1 = X.heap.size := by rw [hX]; simp
      rw [hsz]
      clear hX hsz
      refine wpList_app1 T65 (.tmp 13) (.tmp 16) rfl rfl HNX.out rfl (cs := #[.int .i64 xn]) rfl rfl (by simp [Value.oneCell']) (by omega) HS.out fun v1 w4 hown1 hg1 hat1 => ?_
      have hb1 := below_append HBX.out HNX.out hg1 HS.out
      have ho1 := owned_gb HOX.out hg1 (fun g h1 h2 => ne_by_type HOX.out HNX.out (by decide) g h1 h2.symm)
      have HN1 := hid hown1
      have HB1 := hid hb1
      have HO1 := hid ho1
      clear hown1 hb1 hg1 hat1 ho1
      go_wp2_with fail
      go_roundg (m - (k + 1))
      case measure => omega
      case rel =>
        refine ⟨k + 1, by omega, rfl, by go_num, hid ?_, HO1, HB1⟩
        rw [take_succ_get? (show (ls'.map (·.n))[k]? = some xn by rw [List.getElem?_map, HX.out]; rfl), nums_snoc]
        exact HN1.out
    · obtain rfl : k = m := by omega
      have hki : ¬ (k : Int) < (k : Int) := by omega
      obtain ⟨A3, c3, rfl, hd1, hd2⟩ := owned_slice HN.out
      go_wp2_with (go_at_call 41; refine stop_ (fun Ps hPs => ?_))
      refine hPs ?_
      clear hPs Ps
      refine (values41 _ _ _ wr).mono ?_
      rintro e w4 ⟨rfl, rfl⟩
      go_wp2_with fail
      go_ret
      have hnn : (ls'.map (·.n)).take k = (ks.map Lt.k).map (·.1) := by
        rw [← HK.out, List.take_of_length_le (by have := HM.out; simp; omega)]
        simp [Lt.k]
      have hnl : ((ks.map Lt.k).map (·.1)).length = k := by
        have := HN.out.1
        rw [nums_length, hnn] at this
        omega
      have hN := HN.out
      rw [hnn] at hN
      have hs : H0 ≤ wr.heap.size := by rw [HH.out]; exact HBr.out.size
      refine ⟨wr.heap.size, A3, c3, rfl, by rw [← HH.out]; exact hs, by simp, ?_, ?_, by rw [hnl]; exact hd1, hd2, by rw [← HH.out]; exact HBr.out.alloc hs _⟩
      · rw [hnl]
        exact (Blk.new wr 65 #[.slice A3 k c3]).cell 0
      · rw [hnl]
        have := (Rd.of_own hN).alloc (Nat.le_refl _) (.cells #[.slice A3 k c3] 65)
        exact this.more (by simp)
theorem all26_of {B z : Nat} {last : Int} {sv : Value} {ls : List Lt} {w : World} (h : LX F false w B z last sv ls) : Calls Try.prog 26 #[P z] w (Gives ((ls.map Lt.k).map (·.1)) w) :=
  all26 _ ls w h.le ((flight21 h).mono fun e w' ⟨v, ls', he, ho, hf, hb⟩ => ⟨v, ls', he, ho, by rw [hf.keys, List.take_of_length_le (Nat.le_refl _)], fun x hx => by
    obtain ⟨A, c, e, _, _⟩ := owned_slice (hf.own x hx).own
    exact ⟨A, c, e⟩, hb⟩)
end Go.Proofs.Ytigedoonhmaghaa
