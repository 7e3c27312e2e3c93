/- The statements VarintReads and VarintBack: the walks through their own text. -/
import Derived.Test.YtcfopaphpjmopaaLaw1
namespace Go.Proofs.Ytcfopaphpjmopaa
open Go.RowKit Go.Lg

theorem refRead_at (A : Option Addr) (n c B : Nat) (l : List UInt8) (a b d : Nat) (w : World) (h : Rd w B 1 A n (bts l)) (hn : n ≤ 9223372036854775807) (hd : Vi.dec 0 0 l = (a, b, d)) :
    Calls Try.prog 44 #[.slice A n c] w fun e w' => e = .returned (.tuple #[.int .u64 a, .int .i64 b, .int .i64 d]) ∧ Below w.heap.size w w' :=
  (refRead_any A n c B l w h hn).mono fun e w' ⟨h1, h2⟩ => ⟨by rw [h1, hd]; rfl, h2⟩
theorem small_at (A : Option Addr) (n c B : Nat) (l : List UInt8) (most : Int) (a b d : Nat) (w : World) (h : Rd w B 1 A n (bts l)) (hn : n ≤ 9223372036854775807) (hm : most ≤ 9223372036854775807) (hd : Vi.small most l = (a, b, d)) :
    Calls Try.prog 26 #[.slice A n c, .int .i64 most] w fun e w' => e = .returned (.tuple #[.int .i64 a, .int .i64 b, .int .i64 d]) ∧ w = w' :=
  (small_any A n c B l most w h hn hm).mono fun e w' ⟨h1, h2⟩ => ⟨by rw [h1, hd]; rfl, h2⟩
theorem refSmall_at (A : Option Addr) (n c B : Nat) (l : List UInt8) (most : Int) (a b d : Nat) (w : World) (h : Rd w B 1 A n (bts l)) (hn : n ≤ 9223372036854775807) (hm : most ≤ 9223372036854775807) (hd : Vi.small most l = (a, b, d)) :
    Calls Try.prog 42 #[.slice A n c, .int .i64 most] w fun e w' => e = .returned (.tuple #[.int .i64 a, .int .i64 b, .int .i64 d]) ∧ Below w.heap.size w w' :=
  (refSmall_any A n c B l most w h hn hm).mono fun e w' ⟨h1, h2⟩ => ⟨by rw [h1, hd]; rfl, h2⟩

theorem same_at (A A' : Option Addr) (n c n' c' B B' : Nat) (l l' : List UInt8) (r : Bool) (w : World) (hr : decide (l = l') = r) (h : Rd w B 1 A n (bts l)) (h' : Rd w B' 1 A' n' (bts l')) (hn : n ≤ 9223372036854775807) (hn' : n' ≤ 9223372036854775807) :
    Calls Try.prog 18 #[.slice A n c, .slice A' n' c'] w fun e w' => e = .returned (.bool r) ∧ ∃ d, w' = w.drewN d :=
  hr ▸ same_any A A' n c n' c' B B' l l' w h h' hn hn'
end Go.Proofs.Ytcfopaphpjmopaa
