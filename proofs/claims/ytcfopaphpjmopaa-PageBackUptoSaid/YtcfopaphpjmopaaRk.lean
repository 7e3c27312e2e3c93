/- Pages: the document's own check. -/
import Derived.Test.YtcfopaphpjmopaaPg
namespace Go.Proofs.Ytcfopaphpjmopaa
open Go.RowKit Go.Lg
set_option linter.unusedVariables false
set_option linter.unusedSimpArgs false
set_option maxHeartbeats 6000000 in
set_option maxRecDepth 100000 in
theorem check37 (p : Pg) (w : World) : Calls Try.prog 17 #[p.v] w (Num (err p) w) := by
  obtain ⟨a1, a2, a3, a4, a5, a6⟩ := p
  go_enter Try.func17, Try.ntmps17
  go_wp2_with fail
  all_goals
    first
    | (exfalso; omega)
    | (go_ret
       refine ⟨num_of ?_, (Below.refl _ _).alloc (Nat.le_refl _) _⟩
       try simp only [beq_iff_eq, bne_iff_ne, beq_eq_false_iff_ne, decide_eq_true_eq, Bool.not_eq_true', Bool.not_eq_false', decide_eq_false_iff_not, bne_eq_false_iff_eq] at *
       first | (exfalso; omega) | (refine .inl ⟨?_, by decide⟩; simp only [Ok, Dep]; omega) | (refine .inr ⟨fun hA => ?_, by decide⟩; simp only [Ok, Dep] at hA; omega))
end Go.Proofs.Ytcfopaphpjmopaa
