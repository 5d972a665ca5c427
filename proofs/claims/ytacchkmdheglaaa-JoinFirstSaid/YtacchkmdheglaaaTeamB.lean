/- Contracts of the team's greater functions. -/
import Derived.Test.YtacchkmdheglaaaTeamA
import Derived.Test.YtacchkmdheglaaaBase
namespace Go.Proofs.Ytacchkmdheglaaa
open Go.RowKit
set_option linter.unusedVariables false

set_option maxRecDepth 100000 in
set_option maxHeartbeats 400000 in
theorem most_any (t n : Int) (w : World) :
    Calls Try.prog 45 #[.int .i64 t, .int .i64 n] w fun e w' => e = .returned (.bool (mostT t n)) ∧ w = w' := by
  have hl := lenT_le t.toNat
  have hl2 := lenT_le (t % 128).toNat
  by_cases hm : mayT t n = true
  · have hlt := mayT_lt hm
    have e : t % 128 = t := by omega
    go_enter Try.func45, Try.ntmps45
    go_wp2_with (first | (go_at_call 54; refine (may_any _ _ _).mono ?_; rintro e w' ⟨rfl, rfl⟩) | (go_at_call 55; refine (len_any _ _).mono ?_; rintro e w' ⟨rfl, rfl⟩))
    go_ret
    refine ⟨ret_bool ?_, rfl⟩
    simp [mostT, hm]
  · have hm : mayT t n = false := by simpa using hm
    go_enter Try.func45, Try.ntmps45
    go_wp2_with (first | (go_at_call 54; refine (may_any _ _ _).mono ?_; rintro e w' ⟨rfl, rfl⟩) | (go_at_call 55; refine (len_any _ _).mono ?_; rintro e w' ⟨rfl, rfl⟩))
    go_ret
    refine ⟨ret_bool ?_, rfl⟩
    simp [mostT, hm]

set_option maxRecDepth 100000 in
set_option maxHeartbeats 400000 in
theorem decider_any (view n : Int) (w : World) (h0 : -9223372036854775808 ≤ view) (h1 : view ≤ 9223372036854775807) :
    Calls Try.prog 36 #[.int .i64 view, .int .i64 n] w fun e w' => e = .returned (.int .i64 (decT view n)) ∧ w = w' := by
  by_cases hv : view < 1
  · go_enter Try.func36, Try.ntmps36
    go_wp2
    go_ret
    exact ⟨ret_int (by simp [decT, hv]), rfl⟩
  · by_cases hn : n < 3
    · go_enter Try.func36, Try.ntmps36
      go_wp2
      go_ret
      exact ⟨ret_int (by simp [decT, hn]), rfl⟩
    · by_cases hn' : 7 < n
      · go_enter Try.func36, Try.ntmps36
        go_wp2
        go_ret
        exact ⟨ret_int (by simp [decT, hn']), rfl⟩
      · have b1 : 0 ≤ (view - 1) % n := Int.emod_nonneg _ (by omega)
        have b2 : (view - 1) % n < 7 := by have := Int.emod_lt_of_pos (view - 1) (show 0 < n by omega); omega
        go_enter Try.func36, Try.ntmps36
        go_wp2
        go_ret
        exact ⟨ret_int (by rw [decT, if_neg (by omega)]), rfl⟩

theorem infoInt : (Try.prog.info? 3).map (fun i => (i.zero, i.size, i.bytes)) = some (some (.int .i64 0), 1, 8) := by kernel_rfl

/-- one round's append of a number -/
theorem own_step {w1 : World} {B : Nat} {T k : Nat} {v' : Value} (hy : hasT T (k + 1 : Nat) = true)
    (h : w1.ownsRow B 3 1 v' ((listTo T k).length + 1) (intsV (listTo T k) ++ [.int .i64 ((k : Int) + 1)])) : ownI w1 B 3 v' (listTo T (k + 1)) := by
  rw [ownI, listTo_yes hy]
  simpa [intsV] using h

end Go.Proofs.Ytacchkmdheglaaa
