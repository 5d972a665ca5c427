/- With and without one more or one less; twice changes nothing: for all a and id; no condition. -/
import Derived.Test.YtfhfhljjhgdbiaaTeamC
import Derived.Test.YtfhfhljjhgdbiaaTeamQ
import Derived.Test.YtfhfhljjhgdbiaaFrame
namespace Go.Proofs.Ytfhfhljjhgdbiaa.lawTeamCount
open Go.ChangeShapes Go.WideShapes Go.ChangeAt Go.RowKit
set_option linter.unusedVariables false

theorem len_or : ∀ T, T < 128 → ∀ k, k < 7 → lenT (T ||| 2 ^ k) = lenT T + (if T.testBit k then 0 else 1) := by decide +kernel
theorem len_andNot : ∀ T, T < 128 → ∀ k, k < 7 → lenT (T &&& (18446744073709551615 - 2 ^ k)) + (if T.testBit k then 1 else 0) = lenT T := by decide +kernel
theorem or_same : ∀ T, T < 128 → ∀ k, k < 7 → T.testBit k = true → T ||| 2 ^ k = T := by decide +kernel
theorem andNot_same : ∀ T, T < 128 → ∀ k, k < 7 → T.testBit k = false → T &&& (18446744073709551615 - 2 ^ k) = T := by decide +kernel

set_option maxHeartbeats 1000000 in
theorem walk (a id : Int) (w : World) (ha : I64 a) (hid : I64 id) :
    Calls Try.prog 9 #[.int .i64 a, .int .i64 id] w fun e w' => e = .returned (.bool true) ∧ Below w.heap.size w w' := by
  have ea := and_i64_127 a
  obtain ⟨A, hA⟩ : ∃ A : Nat, a % 128 = A := ⟨(a % 128).toNat, by omega⟩
  have hA1 : A < 128 := by omega
  rw [hA] at ea
  clear hA ha hid
  have hm : ((A : Nat) : Int) % 128 = A := by omega
  have hl := lenT_le A
  by_cases hin : 1 ≤ id ∧ id ≤ 7
  · obtain ⟨h1, h7⟩ := hin
    have hW := withT_lt id hA1
    have hO := woutT_lt id hA1
    have hm1 : ((withT A id : Nat) : Int) % 128 = withT A id := by omega
    have hm2 : ((woutT A id : Nat) : Int) % 128 = woutT A id := by omega
    have hB := isB_yes h1 h7
    cases hx : hasT A id
    · have hb : A.testBit (id.toNat - 1) = false := by rw [← hasT_in A h1 h7]; exact hx
      have e1 : woutT A id = A := by rw [woutT, if_pos hB]; exact andNot_same A hA1 _ (by omega) hb
      have e2 : withT (withT A id) id = withT A id := by
        rw [withT, if_pos hB]
        refine or_same _ hW _ (by omega) ?_
        have := has_with A id id
        rw [hasT_in _ h1 h7] at this
        rw [this, hB]; simp
      have e3 : ((lenT (withT A id) : Nat) : Int) = (lenT A : Int) + 1 := by
        have := len_or A hA1 (id.toNat - 1) (by omega)
        rw [hb] at this
        rw [withT, if_pos hB, this]; simp
      have hxI : (!false) = true := rfl
      clear hb hB
      rw [e1] at hm2 hO
      clear hm2
      go_enter Try.func9, Try.ntmps9
      go_wp2_with fail
      refine (b3_any _).mono ?_
      rintro e w1 ⟨rfl, hb1⟩
      go_wp2_with (first
        | (go_at_call 13; refine (has_any _ _ _ (by omega)).mono ?_; rintro e w' ⟨rfl, rfl⟩)
        | (go_at_call 15; refine (len_any _ _).mono ?_; rintro e w' ⟨rfl, rfl⟩)
        | (go_at_call 17; refine (with_any _ _ _ (by omega)).mono ?_; rintro e w' ⟨rfl, rfl⟩)
        | (go_at_call 18; refine (without_any _ _ _ (by omega)).mono ?_; rintro e w' ⟨rfl, rfl⟩))
      go_ret
      exact ⟨rfl, hb1⟩
    · have hb : A.testBit (id.toNat - 1) = true := by rw [← hasT_in A h1 h7]; exact hx
      have e1 : withT A id = A := by rw [withT, if_pos hB]; exact or_same A hA1 _ (by omega) hb
      have e2 : woutT (woutT A id) id = woutT A id := by
        rw [woutT, if_pos hB]
        refine andNot_same _ hO _ (by omega) ?_
        have := has_wout hA1 id id
        rw [hasT_in _ h1 h7] at this
        rw [this]; simp
      have e3 : ((lenT (woutT A id) : Nat) : Int) = (lenT A : Int) - 1 := by
        have := len_andNot A hA1 (id.toNat - 1) (by omega)
        rw [hb] at this
        rw [woutT, if_pos hB]; simp at this; omega
      clear hb hB
      rw [e1] at hm1 hW
      clear hm1
      go_enter Try.func9, Try.ntmps9
      go_wp2_with fail
      refine (b3_any _).mono ?_
      rintro e w1 ⟨rfl, hb1⟩
      go_wp2_with (first
        | (go_at_call 13; refine (has_any _ _ _ (by omega)).mono ?_; rintro e w' ⟨rfl, rfl⟩)
        | (go_at_call 15; refine (len_any _ _).mono ?_; rintro e w' ⟨rfl, rfl⟩)
        | (go_at_call 17; refine (with_any _ _ _ (by omega)).mono ?_; rintro e w' ⟨rfl, rfl⟩)
        | (go_at_call 18; refine (without_any _ _ _ (by omega)).mono ?_; rintro e w' ⟨rfl, rfl⟩))
      go_ret
      exact ⟨rfl, hb1⟩
  · have hB := isB_no hin
    have e1 : withT A id = A := by rw [withT, if_neg (by rw [hB]; exact Bool.false_ne_true)]
    have e2 : woutT A id = A := by rw [woutT, if_neg (by rw [hB]; exact Bool.false_ne_true)]
    have hx : hasT A id = false := by rw [hasT, hB, Bool.false_and]
    clear hB
    by_cases h1 : 1 ≤ id
    · have h7 : ¬ id ≤ 7 := fun h => hin ⟨h1, h⟩
      clear hin
      go_enter Try.func9, Try.ntmps9
      go_wp2_with fail
      refine (b3_any _).mono ?_
      rintro e w1 ⟨rfl, hb1⟩
      go_wp2_with (first
        | (go_at_call 13; refine (has_any _ _ _ (by omega)).mono ?_; rintro e w' ⟨rfl, rfl⟩)
        | (go_at_call 15; refine (len_any _ _).mono ?_; rintro e w' ⟨rfl, rfl⟩)
        | (go_at_call 17; refine (with_any _ _ _ (by omega)).mono ?_; rintro e w' ⟨rfl, rfl⟩)
        | (go_at_call 18; refine (without_any _ _ _ (by omega)).mono ?_; rintro e w' ⟨rfl, rfl⟩))
      go_ret
      exact ⟨rfl, hb1⟩
    · clear hin
      go_enter Try.func9, Try.ntmps9
      go_wp2_with fail
      refine (b3_any _).mono ?_
      rintro e w1 ⟨rfl, hb1⟩
      go_wp2_with (first
        | (go_at_call 13; refine (has_any _ _ _ (by omega)).mono ?_; rintro e w' ⟨rfl, rfl⟩)
        | (go_at_call 15; refine (len_any _ _).mono ?_; rintro e w' ⟨rfl, rfl⟩)
        | (go_at_call 17; refine (with_any _ _ _ (by omega)).mono ?_; rintro e w' ⟨rfl, rfl⟩)
        | (go_at_call 18; refine (without_any _ _ _ (by omega)).mono ?_; rintro e w' ⟨rfl, rfl⟩))
      go_ret
      exact ⟨rfl, hb1⟩

/-! the row's step, written out by law.py -/
set_option maxRecDepth 100000 in
theorem lifted (os : Os) (started : os.Started) (H : Type) (enc : TypeId × Value → H) :
    ReturnsInHanded {} Try.checked os 9 .any (Rows.teamCountSpec.pre6 enc Try.prog Try.f9 Rows.teamCountRow.domain false) (Rows.teamCountSpec.post enc Try.prog Try.f9 false true false false) := by
  refine returnsInHanded_of_change (C := Try.checked) own started (by kernel_rfl) Try.func9
    (ChangeSpec.witness6 (enc := enc) (C := Try.checked) false ⟨#[], #[.int .i64 0, .int .i64 0], []⟩ 8 (by kernel_rfl) (by kernel_rfl) (by kernel_rfl) (by kernel_rfl)) ?_
  intro W base args ds gs before hval0 hW hcnd _
  have hval : ∀ (j : Nat) t v, Try.f9.params[j]? = some t → args[j]? = some v → Value.okWide Try.prog W .any base t v := hval0
  have hW' := hW
  obtain ⟨p, q, hA0, hV, rfl, hfz, hnd⟩ := hW
  have hA : DataW.TrodAll enc Try.prog W 0 (fun _ => true) true Try.f9.params.toList args.toList ds p := hA0
  rw [Try.params9] at hA hval
  obtain ⟨v0, vs0, d0, ds0, p0, q0, hargs, rfl, rfl, h0, r0⟩ := trodAll_cons hA
  obtain ⟨v1, vs1, d1, ds1, p1, q1, rfl, rfl, rfl, h1, r1⟩ := trodAll_cons r0
  obtain ⟨rfl, rfl, rfl⟩ := trodAll_nil r1
  obtain rfl : args = #[v0, v1] := by cases args; simp_all
  obtain ⟨rfl, rfl⟩ := trodVars_none hV
  have k0 := h0
  have lt0 : ∀ x ∈ p0, x.block < W.heap.size := by obtain ⟨m, hm⟩ := k0; exact DataW.trod_lt m _ _ _ hm
  have k1 := h1
  have lt1 : ∀ x ∈ p1, x.block < W.heap.size := by obtain ⟨m, hm⟩ := k1; exact DataW.trod_lt m _ _ _ hm
  obtain ⟨a0, rfl, rfl, rfl, w0⟩ := open_int Try.underlying3 (hval 0 3 v0 rfl rfl) h0
  have w0 := bounds_i64 w0
  obtain ⟨a1, rfl, rfl, rfl, w1⟩ := open_int Try.underlying3 (hval 1 3 v1 rfl rfl) h1
  have w1 := bounds_i64 w1
  clear hA0 hval0
  simp only [List.append_nil] at hW'
  refine (walk a0 a1 W w0 w1).mono fun e W' ⟨he, bel⟩ => ?_
  subst he
  exact ⟨_, rfl, _, _, _, [], _, [], hW', trodAll_mk1 (shut_bool Try.underlying4 _), (trodAll_cons_mk (Below.trod laidOut (by kernel_rfl) (of_decide_eq_true (by kernel_rfl)) k0 bel lt0) (trodAll_cons_mk (Below.trod laidOut (by kernel_rfl) (of_decide_eq_true (by kernel_rfl)) k1 bel lt1) trodAll_mk0)), rfl, bel.frame _, fun h => by cases h⟩

theorem over : Rows.teamCountRow.holds Try.pinned (OpenSpec.ofChange Rows.teamCountSpec) :=
  OpenClaim.holds_of_wide 9 Try.f9 rfl rfl rfl rfl rfl rfl rfl ⟨rfl, rfl, rfl, rfl, rfl⟩ rfl rfl rfl rfl rfl (by kernel_rfl) Try.func9 (by kernel_rfl)
    (of_decide_eq_true (by kernel_rfl)) (by unfold Func.isWrapper; first | (rw [if_pos (by decide +kernel)]; kernel_rfl) | (rw [if_neg (by decide +kernel)]; exact ⟨rfl, rfl⟩))
    (fun os started H enc _ => lifted os started H enc)

theorem proved : Rows.TeamCountSaid := over
end Go.Proofs.Ytfhfhljjhgdbiaa.lawTeamCount
