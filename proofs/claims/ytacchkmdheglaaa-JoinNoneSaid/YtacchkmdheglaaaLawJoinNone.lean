/- Nobody comes back: a closed sentence. -/
import Derived.Test.YtacchkmdheglaaaJnE
import Derived.Test.YtacchkmdheglaaaFrame
namespace Go.Proofs.Ytacchkmdheglaaa.lawJoinNone
open Go.ChangeShapes Go.WideShapes Go.ChangeAt Go.RowKit
set_option linter.unusedVariables false

set_option maxRecDepth 100000 in
set_option maxHeartbeats 2000000 in
theorem walk (w : World) : Calls Try.prog 4 #[] w fun e w' => e = .returned (.bool true) ∧ Below w.heap.size w w' := by
  go_enter Try.func4, Try.ntmps4
  go_wp2_with fail
  refine (jGot_nil _).mono ?_
  rintro r w1 ⟨rfl, hb1⟩
  have hb2 : Below w.heap.size w (w1.alloc (mg0.box 30)) := hb1.alloc hb1.size _
  clear hb1
  replace hb2 := Lib.hid hb2
  go_wp2_with fail
  refine (b24_any _).mono ?_
  rintro r w3 ⟨rfl, hb3⟩
  have hB3 := Lib.hid (hb2.out.trans (hb3.mono hb2.out.size))
  clear hb2 hb3
  go_wp2_with fail
  refine (jAsk_nil _).mono ?_
  rintro r w4 ⟨rfl, rfl⟩
  go_wp2_with fail
  refine (jHear_nil ⟨11, 0, 0, 0, 0, 0, 0, 0, 0, 0, 0, true⟩ _).mono ?_
  rintro r w5 ⟨rfl, hb5⟩
  have hB5 := hB3.out.trans (hb5.mono hB3.out.size)
  go_wp2
  go_ret
  exact ⟨rfl, hB5⟩

/-! the row's step, written out by law.py -/
set_option maxRecDepth 100000 in
theorem lifted (os : Os) (started : os.Started) (H : Type) (enc : TypeId × Value → H) :
    ReturnsInHanded {} Try.checked os 4 .any (Rows.joinNoneSpec.pre6 enc Try.prog Try.f4 Rows.joinNoneRow.domain false) (Rows.joinNoneSpec.post enc Try.prog Try.f4 false true false false) := by
  refine returnsInHanded_of_change (C := Try.checked) own started (by kernel_rfl) Try.func4
    (ChangeSpec.witness6 (enc := enc) (C := Try.checked) false ⟨#[], #[], []⟩ 8 (by kernel_rfl) (by kernel_rfl) (by kernel_rfl) (by kernel_rfl)) ?_
  intro W base args ds gs before hval0 hW hcnd _
  have hval : ∀ (j : Nat) t v, Try.f4.params[j]? = some t → args[j]? = some v → Value.okWide Try.prog W .any base t v := hval0
  have hW' := hW
  obtain ⟨p, q, hA0, hV, rfl, hfz, hnd⟩ := hW
  have hA : DataW.TrodAll enc Try.prog W 0 (fun _ => true) true Try.f4.params.toList args.toList ds p := hA0
  rw [Try.params4] at hA hval
  obtain ⟨hargs, rfl, rfl⟩ := trodAll_nil hA
  obtain rfl : args = #[] := by cases args; simp_all
  obtain ⟨rfl, rfl⟩ := trodVars_none hV
  clear hA0 hval0
  simp only [List.append_nil] at hW'
  refine (walk  W ).mono fun e W' ⟨he, bel⟩ => ?_
  subst he
  exact ⟨_, rfl, _, _, _, [], _, [], hW', trodAll_mk1 (shut_bool Try.underlying4 _), trodAll_mk0, rfl, bel.frame _, fun h => by cases h⟩

theorem over : Rows.joinNoneRow.holds Try.pinned (OpenSpec.ofChange Rows.joinNoneSpec) :=
  OpenClaim.holds_of_wide 4 Try.f4 rfl rfl rfl rfl rfl rfl rfl ⟨rfl, rfl, rfl, rfl, rfl⟩ rfl rfl rfl rfl rfl (by kernel_rfl) Try.func4 (by kernel_rfl)
    (of_decide_eq_true (by kernel_rfl)) (by unfold Func.isWrapper; first | (rw [if_pos (by decide +kernel)]; kernel_rfl) | (rw [if_neg (by decide +kernel)]; exact ⟨rfl, rfl⟩))
    (fun os started H enc _ => lifted os started H enc)

theorem proved : Rows.JoinNoneSaid := over
end Go.Proofs.Ytacchkmdheglaaa.lawJoinNone
