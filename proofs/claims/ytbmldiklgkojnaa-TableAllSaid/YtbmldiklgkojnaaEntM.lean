/- Contract: the reference's May. -/
import Derived.Test.YtbmldiklgkojnaaEntA
namespace Go.Proofs.Ytbmldiklgkojnaa
open Go.RowKit
set_option linter.unusedVariables false

set_option maxRecDepth 100000 in
set_option maxHeartbeats 1000000 in
theorem rmay12_any (e : Ent) (w : World) :
    Calls Try.prog 21 #[e.val] w fun x w' => x = .returned (.bool (mayE e)) ∧ Below w.heap.size w w' := by
  obtain ⟨a1, a2, a3, a4, a5, a6, a7⟩ := e
  simp only [Ent.val, mayE]
  go_enter Try.func21, Try.ntmps21
  go_wp2
  all_goals go_ret
  all_goals refine ⟨ret_bool ?_, (Below.refl _ _).alloc (Nat.le_refl _) _⟩
  all_goals (rw [Bool.eq_iff_iff]; simp; omega)
end Go.Proofs.Ytbmldiklgkojnaa
