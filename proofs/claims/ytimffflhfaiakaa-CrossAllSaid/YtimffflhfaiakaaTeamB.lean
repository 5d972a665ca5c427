/- Contracts of the team's greater functions. -/
import Derived.Test.YtimffflhfaiakaaTeamA
import Derived.Test.YtimffflhfaiakaaBase
namespace Go.Proofs.Ytimffflhfaiakaa
open Go.RowKit
set_option linter.unusedVariables false

set_option maxRecDepth 100000 in
set_option maxHeartbeats 400000 in
theorem most_any (t n : Int) (w : World) :
    Calls Try.prog 41 #[.int .i64 t, .int .i64 n] w fun e w' => e = .returned (.bool (mostT t n)) ∧ w = w' := by
  have hl := lenT_le t.toNat
  have hl2 := lenT_le (t % 128).toNat
  by_cases hm : mayT t n = true
  · have hlt := mayT_lt hm
    have e : t % 128 = t := by omega
    go_enter Try.func41, Try.ntmps41
    go_wp2_with (first | (go_at_call 48; refine (may_any _ _ _).mono ?_; rintro e w' ⟨rfl, rfl⟩) | (go_at_call 49; refine (len_any _ _).mono ?_; rintro e w' ⟨rfl, rfl⟩))
    go_ret
    refine ⟨ret_bool ?_, rfl⟩
    simp [mostT, hm]
  · have hm : mayT t n = false := by simpa using hm
    go_enter Try.func41, Try.ntmps41
    go_wp2_with (first | (go_at_call 48; refine (may_any _ _ _).mono ?_; rintro e w' ⟨rfl, rfl⟩) | (go_at_call 49; refine (len_any _ _).mono ?_; rintro e w' ⟨rfl, rfl⟩))
    go_ret
    refine ⟨ret_bool ?_, rfl⟩
    simp [mostT, hm]

set_option maxRecDepth 100000 in
set_option maxHeartbeats 400000 in
theorem of_any (v : Value) (l : List Int) (w : World) (hr : rdI w v l) :
    Calls Try.prog 40 #[v] w fun e w' => e = .returned (.int .i64 (l.foldl withT 0 : Nat)) ∧ w = w' := by
  obtain ⟨a, cap, rfl, hm, hM, ha⟩ := hr
  unfold maxLen at hM
  go_enter Try.func40, Try.ntmps40
  go_wp2
  go_loop [3, 8] (fun t i => ∃ k : Nat, k ≤ l.length ∧ i = .int .i64 k ∧ t = .int .i64 ((l.take k).foldl withT 0 : Nat) ∧ (l.take k).foldl withT 0 < 128) (fun _ i => l.length - (intOf i).toNat)
  case atStart => exact ⟨0, Nat.zero_le _, rfl, rfl, by simp⟩
  case round =>
    obtain ⟨k, hk, rfl, rfl, hT⟩ := hrel
    by_cases hlt : k < l.length
    · obtain ⟨b, off, rfl, hc⟩ := ha (by omega)
      have hck := hc k hlt
      have hs := Lib.hid (foldl_snoc l k hlt)
      have hw := withT_lt l[k] hT
      clear hc ha
      go_wp2_with (go_at_call 47; refine (with_nat _ _ _ (by assumption)).mono ?_; rintro e w' ⟨rfl, rfl⟩)
      go_round
      case rel => exact ⟨k + 1, by omega, by go_num, by rw [hs.out], by rw [hs.out]; exact hw⟩
      case measure => simp [intOf]; omega
    · go_wp2
      go_ret
      obtain rfl : k = l.length := by omega
      exact ⟨ret_int (by rw [List.take_length]), rfl⟩

theorem infoInt : (Try.prog.info? 3).map (fun i => (i.zero, i.size, i.bytes)) = some (some (.int .i64 0), 1, 8) := by kernel_rfl

/-- one round's append of a number -/
theorem own_step {w1 : World} {B : Nat} {T k : Nat} {v' : Value} (hy : hasT T (k + 1 : Nat) = true)
    (h : w1.ownsRow B 3 1 v' ((listTo T k).length + 1) (intsV (listTo T k) ++ [.int .i64 ((k : Int) + 1)])) : ownI w1 B 3 v' (listTo T (k + 1)) := by
  rw [ownI, listTo_yes hy]
  simpa [intsV] using h

end Go.Proofs.Ytimffflhfaiakaa
