/- Views have their deciders, in turn: for every view and n; no condition. -/
import Derived.Test.YtfhfhljjhgdbiaaTeamC
import Derived.Test.YtfhfhljjhgdbiaaTeamR
import Derived.Test.YtfhfhljjhgdbiaaFrame
import Derived.Deep.QuietTactic
import Derived.BigQuiet
namespace Go.Proofs.Ytfhfhljjhgdbiaa.lawTeamDecider
open Go.ChangeShapes Go.WideShapes Go.ChangeAt Go.RowKit
set_option linter.unusedVariables false

theorem dec_zero {view n : Int} (h : view < 1 ∨ n < 3 ∨ 7 < n) : decT view n = 0 := by rw [decT, if_pos h]
theorem dec_in {view n : Int} (h : ¬ (view < 1 ∨ n < 3 ∨ 7 < n)) : 1 ≤ decT view n ∧ decT view n ≤ n := by
  rw [decT, if_neg h]
  have := Int.emod_nonneg (view - 1) (show n ≠ 0 by omega)
  have := Int.emod_lt_of_pos (view - 1) (show 0 < n by omega)
  omega
theorem dec_succ {view n : Int} (h : ¬ (view < 1 ∨ n < 3 ∨ 7 < n)) : decT (view + 1) n = decT view n % n + 1 := by
  rw [decT, if_neg (by omega), decT, if_neg h]
  rw [show view + 1 - 1 = view - 1 + 1 by omega, Int.add_comm 1 ((view - 1) % n), Int.emod_add_emod]; omega
theorem dec_add {view n : Int} (h : ¬ (view < 1 ∨ n < 3 ∨ 7 < n)) : decT (view + n) n = decT view n := by
  rw [decT, if_neg (by omega), decT, if_neg h, show view + n - 1 = view - 1 + n by omega, Int.add_emod_right]

set_option maxHeartbeats 400000 in
theorem walk (view n : Int) (w : World) (hv : I64 view) (hn : I64 n) :
    Calls Try.prog 7 #[.int .i64 view, .int .i64 n] w fun e w' => e = .returned (.bool true) ∧ Below w.heap.size w w' := by
  obtain ⟨v0, v1⟩ := hv
  by_cases h : view < 1 ∨ n < 3 ∨ 7 < n
  · have hz := dec_zero h
    clear h
    go_enter Try.func7, Try.ntmps7
    go_wp2_with fail
    refine (b3_any _).mono ?_
    rintro e w1 ⟨rfl, hb1⟩
    go_wp2_with (first
      | (go_at_call 24; refine (decider_any _ _ _ v0 v1).mono ?_; rintro e w' ⟨rfl, rfl⟩)
      | (go_at_call 25; refine (rdecider_any _ _ _ v0 v1).mono ?_; rintro e w' ⟨rfl, rfl⟩))
    go_ret
    exact ⟨rfl, hb1⟩
  · obtain ⟨hd1, hdn⟩ := dec_in h
    have hs := Lib.hid (dec_succ h)
    have ha := Lib.hid (dec_add h)
    have hd0 : (decT view n == 0) = false := by simp; omega
    have hmn : 0 ≤ decT view n % n := Int.emod_nonneg _ (by omega)
    have hml : decT view n % n < 7 := by have := Int.emod_lt_of_pos (decT view n) (show 0 < n by omega); omega
    by_cases hbig : 1099511627776 < view
    · go_enter Try.func7, Try.ntmps7
      go_wp2_with fail
      refine (b3_any _).mono ?_
      rintro e w1 ⟨rfl, hb1⟩
      go_wp2_with (first
        | (go_at_call 24; refine (decider_any _ _ _ v0 v1).mono ?_; rintro e w' ⟨rfl, rfl⟩)
        | (go_at_call 25; refine (rdecider_any _ _ _ v0 v1).mono ?_; rintro e w' ⟨rfl, rfl⟩))
      go_ret
      exact ⟨rfl, hb1⟩
    · go_enter Try.func7, Try.ntmps7
      go_wp2_with fail
      refine (b3_any _).mono ?_
      rintro e w1 ⟨rfl, hb1⟩
      go_wp2_with fail
      refine (decider_any _ _ _ v0 v1).mono ?_
      rintro e w' ⟨rfl, rfl⟩
      go_wp2_with fail
      refine (rdecider_any _ _ _ v0 v1).mono ?_
      rintro e w' ⟨rfl, rfl⟩
      go_wp2_with fail
      have hs' := hs.out
      have ha' := ha.out
      have hn3 : 3 ≤ n := by omega
      go_quiet ((go_at_call 24; exact quiet_eq (decider_any _ _ _ (by omega) (by omega))))
      go_wp2
      go_ret
      exact ⟨ret_bool (by simp), below_drewN hb1 _⟩

/-! the row's step, written out by law.py -/
set_option maxRecDepth 100000 in
theorem lifted (os : Os) (started : os.Started) (H : Type) (enc : TypeId × Value → H) :
    ReturnsInHanded {} Try.checked os 7 .any (Rows.teamDeciderSpec.pre6 enc Try.prog Try.f7 Rows.teamDeciderRow.domain false) (Rows.teamDeciderSpec.post enc Try.prog Try.f7 false true false false) := by
  refine returnsInHanded_of_change (C := Try.checked) own started (by kernel_rfl) Try.func7
    (ChangeSpec.witness6 (enc := enc) (C := Try.checked) false ⟨#[], #[.int .i64 0, .int .i64 0], []⟩ 8 (by kernel_rfl) (by kernel_rfl) (by kernel_rfl) (by kernel_rfl)) ?_
  intro W base args ds gs before hval0 hW hcnd _
  have hval : ∀ (j : Nat) t v, Try.f7.params[j]? = some t → args[j]? = some v → Value.okWide Try.prog W .any base t v := hval0
  have hW' := hW
  obtain ⟨p, q, hA0, hV, rfl, hfz, hnd⟩ := hW
  have hA : DataW.TrodAll enc Try.prog W 0 (fun _ => true) true Try.f7.params.toList args.toList ds p := hA0
  rw [Try.params7] at hA hval
  obtain ⟨v0, vs0, d0, ds0, p0, q0, hargs, rfl, rfl, h0, r0⟩ := trodAll_cons hA
  obtain ⟨v1, vs1, d1, ds1, p1, q1, rfl, rfl, rfl, h1, r1⟩ := trodAll_cons r0
  obtain ⟨rfl, rfl, rfl⟩ := trodAll_nil r1
  obtain rfl : args = #[v0, v1] := by cases args; simp_all
  obtain ⟨rfl, rfl⟩ := trodVars_none hV
  have k0 := h0
  have lt0 : ∀ x ∈ p0, x.block < W.heap.size := by obtain ⟨m, hm⟩ := k0; exact DataW.trod_lt m _ _ _ hm
  have k1 := h1
  have lt1 : ∀ x ∈ p1, x.block < W.heap.size := by obtain ⟨m, hm⟩ := k1; exact DataW.trod_lt m _ _ _ hm
  obtain ⟨a0, rfl, rfl, rfl, w0⟩ := open_int Try.underlying2 (hval 0 2 v0 rfl rfl) h0
  have w0 := bounds_i64 w0
  obtain ⟨a1, rfl, rfl, rfl, w1⟩ := open_int Try.underlying3 (hval 1 3 v1 rfl rfl) h1
  have w1 := bounds_i64 w1
  clear hA0 hval0
  simp only [List.append_nil] at hW'
  refine (walk a0 a1 W w0 w1).mono fun e W' ⟨he, bel⟩ => ?_
  subst he
  exact ⟨_, rfl, _, _, _, [], _, [], hW', trodAll_mk1 (shut_bool Try.underlying4 _), (trodAll_cons_mk (Below.trod laidOut (by kernel_rfl) (of_decide_eq_true (by kernel_rfl)) k0 bel lt0) (trodAll_cons_mk (Below.trod laidOut (by kernel_rfl) (of_decide_eq_true (by kernel_rfl)) k1 bel lt1) trodAll_mk0)), rfl, bel.frame _, fun h => by cases h⟩

theorem over : Rows.teamDeciderRow.holds Try.pinned (OpenSpec.ofChange Rows.teamDeciderSpec) :=
  OpenClaim.holds_of_wide 7 Try.f7 rfl rfl rfl rfl rfl rfl rfl ⟨rfl, rfl, rfl, rfl, rfl⟩ rfl rfl rfl rfl rfl (by kernel_rfl) Try.func7 (by kernel_rfl)
    (of_decide_eq_true (by kernel_rfl)) (by unfold Func.isWrapper; first | (rw [if_pos (by decide +kernel)]; kernel_rfl) | (rw [if_neg (by decide +kernel)]; exact ⟨rfl, rfl⟩))
    (fun os started H enc _ => lifted os started H enc)

theorem proved : Rows.TeamDeciderSaid := over
end Go.Proofs.Ytfhfhljjhgdbiaa.lawTeamDecider
