/- No process. -/
import Derived.Test.YtphlcbbdpmkipaaGreatPkP
namespace Go.Proofs.YtphlcbbdpmkipaaGreat.lawNodeNone
open Go.ChangeShapes Go.WideShapes Go.ChangeAt Go.RowKit
set_option linter.unusedVariables false

set_option maxRecDepth 100000 in
set_option maxHeartbeats 8000000 in
theorem walk (mm : Int) (w : World) (hmm : w.cell? ⟨0, 0, none⟩ = some (.int .i64 mm)) : Calls Tryz.prog 9 #[] w fun r w' => r = .returned (.bool true) ∧ Below w.heap.size w w' := by
  clear hmm
  go_enter Tryz.func9, Tryz.ntmps9
  go_wp2_with fail
  refine (nMake _).mono ?_
  rintro r wx ⟨rfl, rfl⟩
  obtain ⟨W1, hW1⟩ : ∃ W, W = w.alloc (.cells #[.int .i64 0, .int .i64 0] 26) := ⟨_, rfl⟩
  have hB1 : Below w.heap.size w W1 := hW1 ▸ (Below.refl _ _).alloc (Nat.le_refl _) _
  replace hB1 := Lib.hid hB1
  go_wp2_with fail
  refine (nMake8 _ _).mono ?_
  rintro r wx ⟨rfl, rfl⟩
  rw [← hW1]
  replace hW1 := Lib.hid hW1
  go_wp2_with fail
  refine (nView _).mono ?_
  rintro r w2 ⟨rfl, hb2⟩
  have hB2 := Lib.hid (hB1.out.trans (hb2.mono hB1.out.size))
  clear hb2
  go_wp2_with fail
  refine (b25_any _).mono ?_
  rintro r w3 ⟨rfl, hb3⟩
  have hB3 := Lib.hid (hB2.out.trans (hb3.mono hB2.out.size))
  clear hb3
  go_wp2_with fail
  refine (nTick _).mono ?_
  rintro r wx ⟨rfl, rfl⟩
  go_wp2_with fail
  refine (nHear _ _).mono ?_
  rintro r wx ⟨rfl, rfl⟩
  go_wp2_with fail
  refine (nCast _ _ _ _).mono ?_
  rintro r wx ⟨rfl, rfl⟩
  go_wp2_with fail
  refine (nGood _).mono ?_
  rintro r w4 ⟨rfl, hb4⟩
  have hB4 := Lib.hid (hB3.out.trans (hb4.mono hB3.out.size))
  clear hb4
  go_wp2_with fail
  refine (nTold _).mono ?_
  rintro r wx ⟨rfl, rfl⟩
  go_wp2_with fail
  refine (nLog _).mono ?_
  rintro r wx ⟨rfl, rfl⟩
  go_wp2_with fail
  refine (nCommit _).mono ?_
  rintro r wx ⟨rfl, rfl⟩
  go_wp2_with fail
  refine (nClock _).mono ?_
  rintro r wx ⟨rfl, rfl⟩
  go_wp2_with fail
  refine (nBoot _).mono ?_
  rintro r wx ⟨rfl, rfl⟩
  go_wp2_with fail
  refine (nKnows _).mono ?_
  rintro r wx ⟨rfl, rfl⟩
  go_wp2_with fail
  refine (nLast _).mono ?_
  rintro r wx ⟨rfl, rfl⟩
  go_wp2_with fail
  refine (nWaits _).mono ?_
  rintro r wx ⟨rfl, rfl⟩
  go_wp2
  go_ret
  exact ⟨rfl, hB4.out⟩

/-! the row's step, written out by law.py -/
set_option maxRecDepth 100000 in
theorem lifted (os : Os) (started : os.Started) (H : Type) (enc : TypeId × Value → H) :
    ReturnsInHanded {} Tryz.checked os 9 .any (Rows.nodeNoneSpec.pre6 enc Tryz.prog Tryz.f9 Rows.nodeNoneRow.domain false) (Rows.nodeNoneSpec.post enc Tryz.prog Tryz.f9 false true false false) := by
  refine returnsInHanded_of_change_shaped (C := Tryz.checked) own started (by kernel_rfl) Tryz.func9
    (ChangeSpec.witness6 (enc := enc) (C := Tryz.checked) false ⟨#[], #[], []⟩ 8 (by kernel_rfl) (by kernel_rfl) (by kernel_rfl) (by kernel_rfl)) ?_
  intro W base args ds gs before hval0 hW hcnd _ hsh _
  have hval : ∀ (j : Nat) t v, Tryz.f9.params[j]? = some t → args[j]? = some v → Value.okWide Tryz.prog W .any base t v := hval0
  have hW' := hW
  obtain ⟨p, q, hA0, hV, rfl, hfz, hnd⟩ := hW
  have hA : DataW.TrodAll enc Tryz.prog W 0 (fun _ => true) true Tryz.f9.params.toList args.toList ds p := hA0
  rw [Tryz.params9] at hA hval
  obtain ⟨hargs, rfl, rfl⟩ := trodAll_nil hA
  obtain rfl : args = #[] := by cases args; simp_all
  obtain ⟨rfl, rfl⟩ := trodVars_none hV
  clear hA0 hval0
  simp only [List.append_nil] at hW'
  obtain ⟨m, hm⟩ := maxLen_cell W hsh
  refine (walk m W hm).mono fun e W' ⟨he, bel⟩ => ?_
  subst he
  exact ⟨_, rfl, _, _, _, [], _, [], hW', trodAll_mk1 (shut_bool Tryz.underlying4 _), trodAll_mk0, rfl, bel.frame _, fun h => by cases h⟩

theorem over : Rows.nodeNoneRow.holds Tryz.pinned (OpenSpec.ofChange Rows.nodeNoneSpec) :=
  OpenClaim.holds_of_wide 9 Tryz.f9 rfl rfl rfl rfl rfl rfl rfl ⟨rfl, rfl, rfl, rfl, rfl⟩ rfl rfl rfl rfl rfl (by kernel_rfl) Tryz.func9 (by kernel_rfl)
    (of_decide_eq_true (by kernel_rfl)) (by unfold Func.isWrapper; first | (rw [if_pos (by decide +kernel)]; kernel_rfl) | (rw [if_neg (by decide +kernel)]; exact ⟨rfl, rfl⟩))
    (fun os started H enc _ => lifted os started H enc)

theorem proved : Rows.NodeNoneSaid := over
end Go.Proofs.YtphlcbbdpmkipaaGreat.lawNodeNone
