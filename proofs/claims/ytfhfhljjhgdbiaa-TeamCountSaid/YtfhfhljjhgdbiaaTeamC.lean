/- The law's own opening (closed), and 'not too many'. -/
import Derived.Test.YtfhfhljjhgdbiaaTeamB
namespace Go.Proofs.Ytfhfhljjhgdbiaa
open Go.RowKit
set_option linter.unusedVariables false

set_option maxHeartbeats 1000000 in
theorem b3_any (w : World) : Calls Try.prog 10 #[] w fun e w' => e = .returned (.bool true) ∧ Below w.heap.size w w' := by
  have e1 : List.foldl withT 0 [3, 1, 9, 3] = 5 := by decide
  have e2 : hasT 5 3 = true := by decide
  have e3 : hasT 5 2 = false := by decide
  have e4 : lenT 5 = 2 := by decide
  have e5 : withT 5 2 = 7 := by decide
  have e6 : woutT 5 1 = 4 := by decide +kernel
  have e7 : 5 &&& 6 = 4 := by decide
  have e8 : mayT 5 3 = true := by decide
  have e9 : mostT 5 3 = true := by decide
  have ea : mostT 4 3 = false := by decide
  have eb : decT 4 3 = 1 := by decide
  have ec : listT 5 = [1, 3] := by decide
  go_enter Try.func10, Try.ntmps10
  go_wp2_with fail
  refine (of_any _ [3, 1, 9, 3] _ ?_).mono ?_
  · refine ⟨_, _, rfl, by decide, by decide, fun _ => ⟨w.heap.size, 0, rfl, fun j hj => ?_⟩⟩
    match j, hj with
    | 0, _ => simp
    | 1, _ => simp
    | 2, _ => simp
    | 3, _ => simp
  rintro e w1 ⟨rfl, rfl⟩
  rw [e1]
  go_wp2_with fail
  refine (list_any 5 _ (by decide)).mono ?_
  rintro e w2 ⟨v, rfl, hv, hb⟩
  rw [show (5 : Int).toNat = 5 from rfl, ec] at hv
  obtain ⟨a, cap, rfl, hm, hM, ha⟩ := hv.rd
  obtain ⟨b, off, rfl, hc⟩ := ha (by decide)
  have hc1 := hc 1 (by decide)
  simp at hc1
  have hB : Below w.heap.size w w2 := ((Below.refl _ w).alloc (Nat.le_refl _) _).trans (hb.mono (by simp))
  clear hv hb ha hc hm hM
  go_wp2_with (first
    | (go_at_call 13; refine (has_any _ _ _ (by decide)).mono ?_; rintro e w' ⟨rfl, rfl⟩)
    | (go_at_call 15; refine (len_any _ _).mono ?_; rintro e w' ⟨rfl, rfl⟩)
    | (go_at_call 17; refine (with_any _ _ _ (by decide)).mono ?_; rintro e w' ⟨rfl, rfl⟩)
    | (go_at_call 18; refine (without_any _ _ _ (by decide)).mono ?_; rintro e w' ⟨rfl, rfl⟩)
    | (go_at_call 19; refine (and_any _ _ _ (by decide) (by decide)).mono ?_; rintro e w' ⟨rfl, rfl⟩)
    | (go_at_call 20; refine (may_any _ _ _).mono ?_; rintro e w' ⟨rfl, rfl⟩)
    | (go_at_call 22; refine (most_any _ _ _).mono ?_; rintro e w' ⟨rfl, rfl⟩)
    | (go_at_call 24; refine (decider_any _ _ _ (by decide) (by decide)).mono ?_; rintro e w' ⟨rfl, rfl⟩))
  go_ret
  exact ⟨rfl, hB⟩

set_option maxHeartbeats 400000 in
/-- 'not too many': the first twenty -/
theorem cut3_any (v : Value) (l : List Int) (w : World) (hr : rdI w v l) :
    Calls Try.prog 11 #[v] w fun e w' => ∃ v', e = .returned v' ∧ rdI w v' (l.take 20) ∧ w = w' := by
  obtain ⟨a, cap, rfl, hm, hM, ha⟩ := hr
  unfold maxLen at hM
  by_cases h : 20 < l.length
  · obtain ⟨b, off, rfl, hc⟩ := ha (by omega)
    go_enter Try.func11, Try.ntmps11
    go_wp2
    go_ret
    refine ⟨_, rfl, ⟨_, cap, by rw [List.length_take, Nat.min_eq_left (by omega)]; rfl, by simp; omega, by unfold maxLen; omega, fun _ => ⟨b, off, rfl, fun j hj => ?_⟩⟩, rfl⟩
    have hj' : j < l.length := by simp at hj; omega
    rw [hc j hj', List.getElem_take]
  · go_enter Try.func11, Try.ntmps11
    go_wp2
    go_ret
    refine ⟨_, rfl, ?_, rfl⟩
    rw [List.take_of_length_le (by omega)]
    exact ⟨a, cap, rfl, hm, by unfold maxLen; omega, ha⟩
end Go.Proofs.Ytfhfhljjhgdbiaa
