/- Lemmas of the proof: PkP. -/
import Derived.Test.YtphlcbbdpmkipaaGreatPkM
/- No process. -/
namespace Go.Proofs.YtphlcbbdpmkipaaGreat
open Go.RowKit
set_option linter.unusedVariables false

set_option maxRecDepth 100000 in
set_option maxHeartbeats 2000000 in
theorem nIn (w : World) : Calls Tryz.prog 48 #[.pointer none] w fun r w' => r = .returned (.bool false) ∧ Below w.heap.size w w' := by
  go_enter Tryz.func48, Tryz.ntmps48
  go_upto_region 1 with (fail)
  refine wp_region_up (by kernel_rfl) (by kernel_rfl) ?_
  repeat (go_big_quiet_step (fail))
  refine wpQuiet_nil ?_
  intro w2 hw2
  have hb2 := Lib.hid (up_below hw2)
  clear hw2
  go_wp2
  go_ret
  exact ⟨rfl, hb2.out⟩
set_option maxRecDepth 100000 in
set_option maxHeartbeats 2000000 in
theorem nGood (w : World) : Calls Tryz.prog 18 #[.pointer none] w fun r w' => r = .returned (.bool false) ∧ Below w.heap.size w w' := by
  have HI : Hid (∀ y, Calls Tryz.prog 48 #[.pointer none] (upTo w y) fun r w' => r = .returned (.bool false) ∧ ∃ z, w' = upTo w z) := Lib.hid fun y => call_up (nIn _)
  go_enter Tryz.func18, Tryz.ntmps18
  go_upto_region 1 with (fail)
  refine wp_region_up (by kernel_rfl) (by kernel_rfl) ?_
  repeat (go_big_quiet_step (first | (go_at_call 48; exact HI.out _)))
  refine wpQuiet_nil ?_
  intro w2 hw2
  have hb2 := Lib.hid (up_below hw2)
  clear hw2
  go_wp2
  go_ret
  exact ⟨rfl, hb2.out⟩
set_option maxRecDepth 100000 in
set_option maxHeartbeats 2000000 in
theorem nView (w : World) : Calls Tryz.prog 17 #[.pointer none] w fun r w' => r = .returned (.tuple #[.int .i64 0, .int .i64 0, .bool false]) ∧ Below w.heap.size w w' := by
  go_enter Tryz.func17, Tryz.ntmps17
  go_wp2_with fail
  refine (nIn _).mono ?_
  rintro r w1 ⟨rfl, hb1⟩
  replace hb1 := Lib.hid hb1
  go_wp2
  exact bodyPost_ret (v := .tuple #[.int .i64 0, .int .i64 0, .bool false]) (by simp [results, Tryz.results17, go_sem]) rfl ⟨rfl, hb1.out⟩
set_option maxRecDepth 100000 in
theorem nTick (w : World) : Calls Tryz.prog 20 #[.pointer none] w fun r w' => r = .returned (.slice none 0 0) ∧ w = w' := by
  go_enter Tryz.func20, Tryz.ntmps20
  go_wp2
  go_ret
  exact ⟨rfl, rfl⟩
set_option maxRecDepth 100000 in
theorem nHear (v : Value) (w : World) : Calls Tryz.prog 29 #[.pointer none, v] w fun r w' => r = .returned (.slice none 0 0) ∧ w = w' := by
  go_enter Tryz.func29, Tryz.ntmps29
  go_wp2
  go_ret
  exact ⟨rfl, rfl⟩
set_option maxRecDepth 100000 in
theorem nCast (o l : Int) (d : ByteArray) (w : World) : Calls Tryz.prog 30 #[.pointer none, .int .i64 o, .int .i64 l, .string d] w fun r w' => r = .returned (.int .i64 5) ∧ w = w' := by
  go_enter Tryz.func30, Tryz.ntmps30
  go_wp2
  go_ret
  exact ⟨rfl, rfl⟩
set_option maxRecDepth 100000 in
theorem nTold (w : World) : Calls Tryz.prog 28 #[.pointer none] w fun r w' => r = .returned (.slice none 0 0) ∧ w = w' := by
  go_enter Tryz.func28, Tryz.ntmps28
  go_wp2
  go_ret
  exact ⟨rfl, rfl⟩
set_option maxRecDepth 100000 in
theorem nLog (w : World) : Calls Tryz.prog 27 #[.pointer none] w fun r w' => r = .returned (.slice none 0 0) ∧ w = w' := by
  go_enter Tryz.func27, Tryz.ntmps27
  go_wp2
  go_ret
  exact ⟨rfl, rfl⟩
set_option maxRecDepth 100000 in
theorem nCommit (w : World) : Calls Tryz.prog 31 #[.pointer none] w fun r w' => r = .returned (.int .i64 0) ∧ w = w' := by
  go_enter Tryz.func31, Tryz.ntmps31
  go_wp2
  go_ret
  exact ⟨rfl, rfl⟩
set_option maxRecDepth 100000 in
theorem nClock (w : World) : Calls Tryz.prog 21 #[.pointer none] w fun r w' => r = .returned (.int .i64 0) ∧ w = w' := by
  go_enter Tryz.func21, Tryz.ntmps21
  go_wp2
  go_ret
  exact ⟨rfl, rfl⟩
set_option maxRecDepth 100000 in
theorem nBoot (w : World) : Calls Tryz.prog 32 #[.pointer none] w fun r w' => r = .returned (.int .i64 0) ∧ w = w' := by
  go_enter Tryz.func32, Tryz.ntmps32
  go_wp2
  go_ret
  exact ⟨rfl, rfl⟩
set_option maxRecDepth 100000 in
theorem nKnows (w : World) : Calls Tryz.prog 24 #[.pointer none] w fun r w' => r = .returned (.bool false) ∧ w = w' := by
  go_enter Tryz.func24, Tryz.ntmps24
  go_wp2
  go_ret
  exact ⟨rfl, rfl⟩
set_option maxRecDepth 100000 in
theorem nLast (w : World) : Calls Tryz.prog 25 #[.pointer none] w fun r w' => r = .returned (.int .i64 0) ∧ w = w' := by
  go_enter Tryz.func25, Tryz.ntmps25
  go_wp2
  go_ret
  exact ⟨rfl, rfl⟩
set_option maxRecDepth 100000 in
theorem nWaits (w : World) : Calls Tryz.prog 33 #[.pointer none] w fun r w' => r = .returned (.int .i64 0) ∧ w = w' := by
  go_enter Tryz.func33, Tryz.ntmps33
  go_wp2
  go_ret
  exact ⟨rfl, rfl⟩
set_option maxRecDepth 100000 in
theorem nMake (w : World) : Calls Tryz.prog 12 #[.int .i64 1, .int .i64 3, .pointer none] w fun r w' => r = .returned (.tuple #[.pointer none, .int .i64 1]) ∧ w = w' := by
  have hdec : decT 1 3 = 1 := by decide
  go_enter Tryz.func12, Tryz.ntmps12
  go_wp2_with fail
  refine (decider_any 1 3 _ (by omega) (by omega)).mono ?_
  rintro r wx ⟨rfl, rfl⟩
  rw [hdec]
  go_wp2
  go_ret2
  exact ⟨rfl, rfl⟩
set_option maxRecDepth 100000 in
theorem nMake8 (dk : Nat) (w : World) : Calls Tryz.prog 12 #[.int .i64 1, .int .i64 8, ptr0 dk] w fun r w' => r = .returned (.tuple #[.pointer none, .int .i64 1]) ∧ w = w' := by
  have hdec : decT 1 8 = 0 := by decide
  go_enter Tryz.func12, Tryz.ntmps12
  go_wp2_with fail
  refine (decider_any 1 8 _ (by omega) (by omega)).mono ?_
  rintro r wx ⟨rfl, rfl⟩
  rw [hdec]
  go_wp2
  go_ret2
  exact ⟨rfl, rfl⟩
end Go.Proofs.YtphlcbbdpmkipaaGreat
