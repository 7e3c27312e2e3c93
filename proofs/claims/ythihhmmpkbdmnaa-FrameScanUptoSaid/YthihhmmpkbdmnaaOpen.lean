/- From the readings of arguments to the words of the walks. Over any program. -/
import Derived.Test.YthihhmmpkbdmnaaBase
import Derived.ProofKit
import Derived.OpenShut
import Derived.ShutString
import Derived.ChangeOld
import Derived.SizedLaws
namespace Go.Lg
open Go.ChangeShapes Go.WideShapes Go.ChangeAt Go.RowKit

theorem wf_u8 {n : Int} (h : (Lit.int .u8 n).wf = true) : 0 ≤ n ∧ n < 256 := by
  have := bounds_u8 h; omega

theorem cell_addr {w : World} {x : Addr} {v : Value} (h : w.cell? (x.add 0) = some v) : ∃ b off, x = ⟨b, off, none⟩ ∧ b < w.heap.size := by
  rw [Addr.add_zero'] at h
  obtain ⟨b, off, spot⟩ := x
  have hs := World.cell?_spot h
  have hb := World.block_lt_of_cell? w _ h
  cases hs
  exact ⟨b, off, rfl, hb⟩

/-- A slice of integers that came in. -/
def IsRow (k : IntKind) (w : World) (a : Option Addr) (len cap : Nat) (zs : List Int) : Prop :=
  (a = none ∧ len = 0 ∧ cap = 0 ∧ zs = []) ∨
  ∃ x, a = some x ∧ len ≤ cap ∧ cap ≤ maxLen ∧ zs.length = cap ∧ (∀ i, i < zs.length → w.cell? (x.add i) = some (.int k (zs.getD i 0))) ∧ ∀ n ∈ zs, (Lit.int k n).wf = true

theorem rd_ints {k : IntKind} {w : World} {a : Option Addr} {len cap : Nat} {zs : List Int} (h : IsRow k w a len cap zs) : len ≤ cap ∧ cap ≤ maxLen ∧ Rd w w.heap.size 1 a len ((zs.take len).map (Value.int k)) ∧ ∀ n ∈ zs.take len, (Lit.int k n).wf = true := by
  rcases h with ⟨rfl, rfl, rfl, rfl⟩ | ⟨x, rfl, hl, hm, hz, hc, hwf⟩
  · exact ⟨Nat.le_refl _, Nat.zero_le _, by simpa using Rd.nil_, by simp⟩
  · refine ⟨hl, hm, ⟨by simp; omega, fun hn => ?_⟩, fun n hn => hwf n (List.mem_of_mem_take hn)⟩
    obtain ⟨b, off, rfl, hb⟩ := cell_addr (hc 0 (by omega))
    refine ⟨b, off, rfl, hb, fun j u hu => ?_⟩
    have hj : j < len := by
      have := (List.getElem?_eq_some_iff.1 hu).1
      simp at this; omega
    have h1 := hc j (by omega)
    rw [Addr.add_lit] at h1
    rw [h1, ← hu]
    simp [hj, List.getD, List.getElem?_eq_getElem (show j < zs.length by omega)]

theorem bts_of_ints {zs : List Int} (h : ∀ n ∈ zs, (Lit.int .u8 n).wf = true) : ∃ l, zs.map (Value.int .u8) = bts l := by
  refine ⟨zs.map fun z => UInt8.ofNat z.toNat, ?_⟩
  simp only [bts, List.map_map]
  refine List.map_congr_left fun z hz => ?_
  have := wf_u8 (h z hz)
  simp only [Function.comp]
  rw [UInt8.toNat_ofNat_of_lt' (by simp only [UInt8.size]; omega)]
  congr 1
  omega

theorem rd_bytes {w : World} {a : Option Addr} {len cap : Nat} {zs : List Int} (h : IsRow .u8 w a len cap zs) : ∃ l, Rd w w.heap.size 1 a len (bts l) := by
  obtain ⟨_, _, h1, h2⟩ := rd_ints h
  obtain ⟨l, hl⟩ := bts_of_ints h2
  exact ⟨l, hl ▸ h1⟩

theorem u64_wf {n : Int} (h : (Lit.int .u64 n).wf = true) : 0 ≤ n ∧ n ≤ 18446744073709551615 := bounds_u64 h
theorem u64_nat {n : Int} (h : (Lit.int .u64 n).wf = true) : ∃ x : Nat, n = x ∧ x < 2 ^ 64 := by
  have := bounds_u64 h
  exact ⟨n.toNat, by omega, by omega⟩
end Go.Lg
