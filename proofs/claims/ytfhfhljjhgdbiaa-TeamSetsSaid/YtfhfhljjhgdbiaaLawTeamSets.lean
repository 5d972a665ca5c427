/- One more, one less, what two teams have in common: for all a, b, id; no condition. -/
import Derived.Test.YtfhfhljjhgdbiaaTeamC
import Derived.Test.YtfhfhljjhgdbiaaTeamR
import Derived.Test.YtfhfhljjhgdbiaaTeamQ
import Derived.Test.YtfhfhljjhgdbiaaFrame
namespace Go.Proofs.Ytfhfhljjhgdbiaa.lawTeamSets
open Go.ChangeShapes Go.WideShapes Go.ChangeAt Go.RowKit
set_option linter.unusedVariables false

set_option maxHeartbeats 2000000 in
theorem walk (a b id : Int) (w : World) (ha : I64 a) (hb : I64 b) (hid : I64 id) :
    Calls Try.prog 4 #[.int .i64 a, .int .i64 b, .int .i64 id] w fun e w' => e = .returned (.bool true) ∧ Below w.heap.size w w' := by
  have ea := and_i64_127 a
  have eb := and_i64_127 b
  obtain ⟨A, hA⟩ : ∃ A : Nat, a % 128 = A := ⟨(a % 128).toNat, by omega⟩
  obtain ⟨B, hB⟩ : ∃ B : Nat, b % 128 = B := ⟨(b % 128).toNat, by omega⟩
  have hA1 : A < 128 := by omega
  have hB1 : B < 128 := by omega
  rw [hA] at ea
  rw [hB] at eb
  clear hA hB ha hb hid
  have hW := withT_lt id hA1
  have hO := woutT_lt id hA1
  have hN : A &&& B < 128 := Nat.lt_of_le_of_lt Nat.and_le_left hA1
  go_enter Try.func4, Try.ntmps4
  go_wp2_with fail
  refine (b3_any _).mono ?_
  rintro e w1 ⟨rfl, hb1⟩
  go_wp2
  go_loopw [10] (fun i wr => ∃ n : Int, 1 ≤ n ∧ n ≤ 8 ∧ i = .int .i64 n ∧ Below w.heap.size w wr) (fun i _ => (8 - intOf i).toNat)
  case atStart => exact ⟨1, by omega, by omega, rfl, hb1⟩
  case round =>
    obtain ⟨n, hn1, hn8, rfl, hbel⟩ := hrel
    clear hb1
    by_cases hlt : n ≤ 7
    · have e1 := has_with A id n
      have e2 := has_wout hA1 id n
      have e3 := has_and A B n
      rw [isB_yes hn1 hlt, Bool.and_true] at e1
      have hs := hbel.size
      by_cases hne : n = id
      · subst hne
        simp only [beq_self_eq_true, Bool.or_true, Bool.not_true, Bool.and_false] at e1 e2
        cases hx : hasT A n <;> cases hy : hasT B n <;> rw [hx, hy] at e3 <;> simp only [Bool.and_true, Bool.and_false, Bool.and_self] at e3
        all_goals
          go_wp2_with fail
          refine (rhas_any _ _ _ (by omega)).mono ?_
          rintro e w2 ⟨rfl, hb2⟩
          go_wp2_with fail
          refine (rhas_any _ _ _ (by omega)).mono ?_
          rintro e w3 ⟨rfl, hb3⟩
          have hbb := (hbel.trans (hb2.mono hs)).trans (hb3.mono (Nat.le_trans hs hb2.size))
          clear hb2 hb3
          go_wp2_with (first
            | (go_at_call 13; refine (has_any _ _ _ (by omega)).mono ?_; rintro e w' ⟨rfl, rfl⟩)
            | (go_at_call 17; refine (with_any _ _ _ (by omega)).mono ?_; rintro e w' ⟨rfl, rfl⟩)
            | (go_at_call 18; refine (without_any _ _ _ (by omega)).mono ?_; rintro e w' ⟨rfl, rfl⟩)
            | (go_at_call 19; refine (and_any _ _ _ (by omega) (by omega)).mono ?_; rintro e w' ⟨rfl, rfl⟩))
          go_roundw
          case rel => exact ⟨n + 1, by omega, by omega, rfl, hbb⟩
          case measure => simp [intOf]; omega
      · have hd : (n == id) = false := by simpa using hne
        have hd' : (n != id) = true := by simpa using hne
        rw [hd] at e1 e2
        simp only [Bool.or_false, Bool.not_false, Bool.and_true] at e1 e2
        cases hx : hasT A n <;> cases hy : hasT B n <;> rw [hx] at e1 e2 <;> rw [hx, hy] at e3 <;> simp only [Bool.and_true, Bool.and_false, Bool.and_self] at e3
        all_goals
          go_wp2_with fail
          refine (rhas_any _ _ _ (by omega)).mono ?_
          rintro e w2 ⟨rfl, hb2⟩
          go_wp2_with fail
          refine (rhas_any _ _ _ (by omega)).mono ?_
          rintro e w3 ⟨rfl, hb3⟩
          have hbb := (hbel.trans (hb2.mono hs)).trans (hb3.mono (Nat.le_trans hs hb2.size))
          clear hb2 hb3
          go_wp2_with (first
            | (go_at_call 13; refine (has_any _ _ _ (by omega)).mono ?_; rintro e w' ⟨rfl, rfl⟩)
            | (go_at_call 17; refine (with_any _ _ _ (by omega)).mono ?_; rintro e w' ⟨rfl, rfl⟩)
            | (go_at_call 18; refine (without_any _ _ _ (by omega)).mono ?_; rintro e w' ⟨rfl, rfl⟩)
            | (go_at_call 19; refine (and_any _ _ _ (by omega) (by omega)).mono ?_; rintro e w' ⟨rfl, rfl⟩))
          go_roundw
          case rel => exact ⟨n + 1, by omega, by omega, rfl, hbb⟩
          case measure => simp [intOf]; omega
    · go_wp2
      go_ret
      exact ⟨rfl, hbel⟩

/-! the row's step, written out by law.py -/
set_option maxRecDepth 100000 in
theorem lifted (os : Os) (started : os.Started) (H : Type) (enc : TypeId × Value → H) :
    ReturnsInHanded {} Try.checked os 4 .any (Rows.teamSetsSpec.pre6 enc Try.prog Try.f4 Rows.teamSetsRow.domain false) (Rows.teamSetsSpec.post enc Try.prog Try.f4 false true false false) := by
  refine returnsInHanded_of_change (C := Try.checked) own started (by kernel_rfl) Try.func4
    (ChangeSpec.witness6 (enc := enc) (C := Try.checked) false ⟨#[], #[.int .i64 0, .int .i64 0, .int .i64 0], []⟩ 8 (by kernel_rfl) (by kernel_rfl) (by kernel_rfl) (by kernel_rfl)) ?_
  intro W base args ds gs before hval0 hW hcnd _
  have hval : ∀ (j : Nat) t v, Try.f4.params[j]? = some t → args[j]? = some v → Value.okWide Try.prog W .any base t v := hval0
  have hW' := hW
  obtain ⟨p, q, hA0, hV, rfl, hfz, hnd⟩ := hW
  have hA : DataW.TrodAll enc Try.prog W 0 (fun _ => true) true Try.f4.params.toList args.toList ds p := hA0
  rw [Try.params4] at hA hval
  obtain ⟨v0, vs0, d0, ds0, p0, q0, hargs, rfl, rfl, h0, r0⟩ := trodAll_cons hA
  obtain ⟨v1, vs1, d1, ds1, p1, q1, rfl, rfl, rfl, h1, r1⟩ := trodAll_cons r0
  obtain ⟨v2, vs2, d2, ds2, p2, q2, rfl, rfl, rfl, h2, r2⟩ := trodAll_cons r1
  obtain ⟨rfl, rfl, rfl⟩ := trodAll_nil r2
  obtain rfl : args = #[v0, v1, v2] := by cases args; simp_all
  obtain ⟨rfl, rfl⟩ := trodVars_none hV
  have k0 := h0
  have lt0 : ∀ x ∈ p0, x.block < W.heap.size := by obtain ⟨m, hm⟩ := k0; exact DataW.trod_lt m _ _ _ hm
  have k1 := h1
  have lt1 : ∀ x ∈ p1, x.block < W.heap.size := by obtain ⟨m, hm⟩ := k1; exact DataW.trod_lt m _ _ _ hm
  have k2 := h2
  have lt2 : ∀ x ∈ p2, x.block < W.heap.size := by obtain ⟨m, hm⟩ := k2; exact DataW.trod_lt m _ _ _ hm
  obtain ⟨a0, rfl, rfl, rfl, w0⟩ := open_int Try.underlying3 (hval 0 3 v0 rfl rfl) h0
  have w0 := bounds_i64 w0
  obtain ⟨a1, rfl, rfl, rfl, w1⟩ := open_int Try.underlying3 (hval 1 3 v1 rfl rfl) h1
  have w1 := bounds_i64 w1
  obtain ⟨a2, rfl, rfl, rfl, w2⟩ := open_int Try.underlying3 (hval 2 3 v2 rfl rfl) h2
  have w2 := bounds_i64 w2
  clear hA0 hval0
  simp only [List.append_nil] at hW'
  refine (walk a0 a1 a2 W w0 w1 w2).mono fun e W' ⟨he, bel⟩ => ?_
  subst he
  exact ⟨_, rfl, _, _, _, [], _, [], hW', trodAll_mk1 (shut_bool Try.underlying4 _), (trodAll_cons_mk (Below.trod laidOut (by kernel_rfl) (of_decide_eq_true (by kernel_rfl)) k0 bel lt0) (trodAll_cons_mk (Below.trod laidOut (by kernel_rfl) (of_decide_eq_true (by kernel_rfl)) k1 bel lt1) (trodAll_cons_mk (Below.trod laidOut (by kernel_rfl) (of_decide_eq_true (by kernel_rfl)) k2 bel lt2) trodAll_mk0))), rfl, bel.frame _, fun h => by cases h⟩

theorem over : Rows.teamSetsRow.holds Try.pinned (OpenSpec.ofChange Rows.teamSetsSpec) :=
  OpenClaim.holds_of_wide 4 Try.f4 rfl rfl rfl rfl rfl rfl rfl ⟨rfl, rfl, rfl, rfl, rfl⟩ rfl rfl rfl rfl rfl (by kernel_rfl) Try.func4 (by kernel_rfl)
    (of_decide_eq_true (by kernel_rfl)) (by unfold Func.isWrapper; first | (rw [if_pos (by decide +kernel)]; kernel_rfl) | (rw [if_neg (by decide +kernel)]; exact ⟨rfl, rfl⟩))
    (fun os started H enc _ => lifted os started H enc)

theorem proved : Rows.TeamSetsSaid := over
end Go.Proofs.Ytfhfhljjhgdbiaa.lawTeamSets
