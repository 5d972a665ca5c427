/- Contracts of the team's small functions. -/
import Derived.Test.YtimffflhfaiakaaRows
import Derived.Test.YtimffflhfaiakaaTeamP
import Derived.WalkKit
import Derived.WalkSpells
import Derived.WalkLawsBesides
import Derived.Handy
import Derived.Deep.QuietTactic
import Derived.BigQuiet
import Derived.Lib.Hide
import Derived.IntWalk
namespace Go.Proofs.Ytimffflhfaiakaa
open Go.RowKit
set_option linter.unusedVariables false

set_option maxRecDepth 100000 in
set_option maxHeartbeats 400000 in
theorem is_any (id : Int) (w : World) :
    Calls Try.prog 50 #[.int .i64 id] w fun e w' => e = .returned (.bool (isB id)) ∧ w = w' := by
  go_enter Try.func50, Try.ntmps50
  go_wp2
  all_goals go_ret
  all_goals refine ⟨ret_bool ?_, rfl⟩
  · simp [isB, *]
  · rw [isB_no (by omega)]

set_option maxRecDepth 100000 in
set_option maxHeartbeats 400000 in
theorem bit_any (id : Int) (w : World) (h1 : 1 ≤ id) (h7 : id ≤ 7) :
    Calls Try.prog 51 #[.int .i64 id] w fun e w' => e = .returned (.int .i64 ((2 ^ (id.toNat - 1) : Nat) : Int)) ∧ w = w' := by
  go_enter Try.func51, Try.ntmps51
  go_wp2
  go_ret
  exact ⟨ret_int (pow_small h1 h7), rfl⟩

set_option maxRecDepth 100000 in
set_option maxHeartbeats 400000 in
theorem has_nat (T : Nat) (id : Int) (w : World) (hT : T < 128) :
    Calls Try.prog 42 #[.int .i64 (T : Int), .int .i64 id] w fun e w' => e = .returned (.bool (hasT T id)) ∧ w = w' := by
  by_cases hin : 1 ≤ id ∧ id ≤ 7
  · obtain ⟨h1, h7⟩ := hin
    have hB := isB_yes h1 h7
    have hp := pow_lt h1 h7
    have ha := Lib.hid (and_nat T _ hT hp)
    have hz := Lib.hid (and_has T h1 h7 hT)
    go_enter Try.func42, Try.ntmps42
    go_wp2_with (first | (go_at_call 50; refine (is_any _ _).mono ?_; rintro e w' ⟨rfl, rfl⟩) | (go_at_call 51; refine (bit_any _ _ (by omega) (by omega)).mono ?_; rintro e w' ⟨rfl, rfl⟩))
    go_ret
    refine ⟨ret_bool ?_, rfl⟩
    rw [← hz.out, ← ha.out]; rfl
  · have hB := isB_no hin
    go_enter Try.func42, Try.ntmps42
    go_wp2_with (first | (go_at_call 50; refine (is_any _ _).mono ?_; rintro e w' ⟨rfl, rfl⟩) | (go_at_call 51; refine (bit_any _ _ (by omega) (by omega)).mono ?_; rintro e w' ⟨rfl, rfl⟩))
    go_ret
    refine ⟨ret_bool ?_, rfl⟩
    simp [hasT, hB]

set_option maxRecDepth 100000 in
set_option maxHeartbeats 400000 in
theorem with_nat (T : Nat) (id : Int) (w : World) (hT : T < 128) :
    Calls Try.prog 47 #[.int .i64 (T : Int), .int .i64 id] w fun e w' => e = .returned (.int .i64 (withT T id : Nat)) ∧ w = w' := by
  by_cases hin : 1 ≤ id ∧ id ≤ 7
  · obtain ⟨h1, h7⟩ := hin
    have hB := isB_yes h1 h7
    have hp := pow_lt h1 h7
    have ha := Lib.hid (or_nat T _ hT hp)
    go_enter Try.func47, Try.ntmps47
    go_wp2_with (first | (go_at_call 50; refine (is_any _ _).mono ?_; rintro e w' ⟨rfl, rfl⟩) | (go_at_call 51; refine (bit_any _ _ (by omega) (by omega)).mono ?_; rintro e w' ⟨rfl, rfl⟩))
    go_ret
    refine ⟨ret_int ?_, rfl⟩
    rw [withT, if_pos hB, ← ha.out]; rfl
  · have hB := isB_no hin
    go_enter Try.func47, Try.ntmps47
    go_wp2_with (go_at_call 50; refine (is_any _ _).mono ?_; rintro e w' ⟨rfl, rfl⟩)
    go_ret
    refine ⟨ret_int ?_, rfl⟩
    simp [withT, hB]

set_option maxRecDepth 100000 in
set_option maxHeartbeats 400000 in
theorem ones_any (T : Nat) (w : World) (hT : T < 128) :
    Calls Try.prog 55 #[.int .u64 (T : Int)] w fun e w' => e = .returned (.int .i64 (lenT T : Nat)) ∧ w = w' := by
  go_enter Try.func55, Try.ntmps55
  go_wp2
  go_ret
  refine ⟨ret_int ?_, rfl⟩
  clear w
  revert T
  decide +kernel

set_option maxRecDepth 100000 in
set_option maxHeartbeats 400000 in
theorem len_any (t : Int) (w : World) :
    Calls Try.prog 49 #[.int .i64 t] w fun e w' => e = .returned (.int .i64 (lenT (t % 128).toNat : Nat)) ∧ w = w' := by
  have ha := and_i64_127 t
  obtain ⟨T, hT⟩ : ∃ T : Nat, t % 128 = (T : Int) := ⟨(t % 128).toNat, by omega⟩
  have hT2 : T < 128 := by omega
  rw [hT] at ha
  rw [hT, Int.toNat_natCast]
  clear hT
  go_enter Try.func49, Try.ntmps49
  go_wp2_with (go_at_call 55; refine (ones_any T _ hT2).mono ?_; rintro e w' ⟨rfl, rfl⟩)
  go_ret
  exact ⟨rfl, rfl⟩

theorem has_any (t id : Int) (w : World) (h : 0 ≤ t ∧ t < 128) :
    Calls Try.prog 42 #[.int .i64 t, .int .i64 id] w fun e w' => e = .returned (.bool (hasT t.toNat id)) ∧ w = w' := by
  obtain ⟨T, rfl⟩ := Int.eq_ofNat_of_zero_le h.1
  exact has_nat T id w (by omega)
theorem with_any (t id : Int) (w : World) (h : 0 ≤ t ∧ t < 128) :
    Calls Try.prog 47 #[.int .i64 t, .int .i64 id] w fun e w' => e = .returned (.int .i64 (withT t.toNat id : Nat)) ∧ w = w' := by
  obtain ⟨T, rfl⟩ := Int.eq_ofNat_of_zero_le h.1
  exact with_nat T id w (by omega)
set_option maxRecDepth 100000 in
set_option maxHeartbeats 400000 in
theorem may_any (t n : Int) (w : World) :
    Calls Try.prog 48 #[.int .i64 t, .int .i64 n] w fun e w' => e = .returned (.bool (mayT t n)) ∧ w = w' := by
  by_cases h3 : 3 ≤ n
  · by_cases h7 : n ≤ 7
    · by_cases h0 : 0 ≤ t
      · go_enter Try.func48, Try.ntmps48
        go_wp2
        have hp := pow_n h3 h7
        go_ret
        exact ⟨ret_bool (by simp [mayT, h3, h7, h0, hp]), rfl⟩
      · go_enter Try.func48, Try.ntmps48
        go_wp2
        all_goals go_ret
        exact ⟨ret_bool (by simp [mayT]; omega), rfl⟩
    · go_enter Try.func48, Try.ntmps48
      go_wp2
      all_goals go_ret
      exact ⟨ret_bool (by simp [mayT]; omega), rfl⟩
  · go_enter Try.func48, Try.ntmps48
    go_wp2
    all_goals go_ret
    exact ⟨ret_bool (by simp [mayT]; omega), rfl⟩
end Go.Proofs.Ytimffflhfaiakaa
