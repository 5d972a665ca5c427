/- No votes: a closed sentence. -/
import Derived.Test.YtacchkmdheglaaaVtG
namespace Go.Proofs.Ytacchkmdheglaaa.lawVoteNone
open Go.ChangeShapes Go.WideShapes Go.ChangeAt Go.RowKit
set_option linter.unusedVariables false

set_option maxRecDepth 100000 in
set_option maxHeartbeats 2000000 in
theorem walk (w : World) : Calls Try.prog 9 #[] w fun e w' => e = .returned (.bool true) ∧ Below w.heap.size w w' := by
  go_enter Try.func9, Try.ntmps9
  go_wp2_with fail
  refine (vBest_nil _).mono ?_
  rintro r w1 ⟨rfl, hb1⟩
  have hb2 : Below w.heap.size w (w1.alloc (boxV 0 0 (.slice none 0 0) 0 47)) := hb1.alloc hb1.size _
  clear hb1
  replace hb2 := Lib.hid hb2
  go_wp2_with fail
  refine (b20_any _).mono ?_
  rintro r w3 ⟨rfl, hb3⟩
  have hB3 := Lib.hid (hb2.out.trans (hb3.mono hb2.out.size))
  clear hb2 hb3
  go_wp2_with fail
  refine (vView_nil _).mono ?_
  rintro r w4 ⟨rfl, rfl⟩
  go_wp2_with fail
  refine (vAdd_nil ⟨1, 0, [], 0⟩ none 0 0 _).mono ?_
  rintro r w5 ⟨rfl, hb5⟩
  have hB5 := Lib.hid (hB3.out.trans (hb5.mono hB3.out.size))
  clear hB3 hb5
  go_wp2_with fail
  refine (vTeam_nil _).mono ?_
  rintro r w6 ⟨rfl, rfl⟩
  go_wp2_with fail
  refine (vEnough_nil _).mono ?_
  rintro r w7 ⟨rfl, hb7⟩
  have hB7 := hB5.out.trans (hb7.mono hB5.out.size)
  go_wp2
  go_ret
  exact ⟨rfl, hB7⟩

/-! the row's step, written out by law.py -/
set_option maxRecDepth 100000 in
theorem lifted (os : Os) (started : os.Started) (H : Type) (enc : TypeId × Value → H) :
    ReturnsInHanded {} Try.checked os 9 .any (Rows.voteNoneSpec.pre6 enc Try.prog Try.f9 Rows.voteNoneRow.domain false) (Rows.voteNoneSpec.post enc Try.prog Try.f9 false true false false) := by
  refine returnsInHanded_of_change (C := Try.checked) own started (by kernel_rfl) Try.func9
    (ChangeSpec.witness6 (enc := enc) (C := Try.checked) false ⟨#[], #[], []⟩ 8 (by kernel_rfl) (by kernel_rfl) (by kernel_rfl) (by kernel_rfl)) ?_
  intro W base args ds gs before hval0 hW hcnd _
  have hval : ∀ (j : Nat) t v, Try.f9.params[j]? = some t → args[j]? = some v → Value.okWide Try.prog W .any base t v := hval0
  have hW' := hW
  obtain ⟨p, q, hA0, hV, rfl, hfz, hnd⟩ := hW
  have hA : DataW.TrodAll enc Try.prog W 0 (fun _ => true) true Try.f9.params.toList args.toList ds p := hA0
  rw [Try.params9] at hA hval
  obtain ⟨hargs, rfl, rfl⟩ := trodAll_nil hA
  obtain rfl : args = #[] := by cases args; simp_all
  obtain ⟨rfl, rfl⟩ := trodVars_none hV
  clear hA0 hval0
  simp only [List.append_nil] at hW'
  refine (walk  W ).mono fun e W' ⟨he, bel⟩ => ?_
  subst he
  exact ⟨_, rfl, _, _, _, [], _, [], hW', trodAll_mk1 (shut_bool Try.underlying4 _), trodAll_mk0, rfl, bel.frame _, fun h => by cases h⟩

theorem over : Rows.voteNoneRow.holds Try.pinned (OpenSpec.ofChange Rows.voteNoneSpec) :=
  OpenClaim.holds_of_wide 9 Try.f9 rfl rfl rfl rfl rfl rfl rfl ⟨rfl, rfl, rfl, rfl, rfl⟩ rfl rfl rfl rfl rfl (by kernel_rfl) Try.func9 (by kernel_rfl)
    (of_decide_eq_true (by kernel_rfl)) (by unfold Func.isWrapper; first | (rw [if_pos (by decide +kernel)]; kernel_rfl) | (rw [if_neg (by decide +kernel)]; exact ⟨rfl, rfl⟩))
    (fun os started H enc _ => lifted os started H enc)

theorem proved : Rows.VoteNoneSaid := over
end Go.Proofs.Ytacchkmdheglaaa.lawVoteNone
