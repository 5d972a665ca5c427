/- Any two teams that are most have someone in common; no condition. -/
import Derived.Test.YtfhfhljjhgdbiaaTeamC
import Derived.Test.YtfhfhljjhgdbiaaTeamR
import Derived.Test.YtfhfhljjhgdbiaaFrame
namespace Go.Proofs.Ytfhfhljjhgdbiaa.lawTeamMeet
open Go.ChangeShapes Go.WideShapes Go.ChangeAt Go.RowKit
set_option linter.unusedVariables false

theorem two (p q : Nat → Bool) (l : List Nat) : (l.filter p).length + (l.filter q).length = (l.filter fun i => p i && q i).length + (l.filter fun i => p i || q i).length := by
  induction l with
  | nil => rfl
  | cons x l ih => cases hp : p x <;> cases hq : q x <;> simp [List.filter_cons, hp, hq] <;> omega
theorem lenT_two (A B : Nat) : lenT A + lenT B = lenT (A &&& B) + lenT (A ||| B) := by
  unfold lenT
  rw [two]
  simp only [Nat.testBit_and, Nat.testBit_or]
theorem lenT_n : ∀ n, n ≤ 7 → ∀ A, A < 2 ^ n → lenT A ≤ n := by decide +kernel
theorem meet (n : Nat) (h7 : n ≤ 7) (A : Nat) (hA : A < 2 ^ n) (B : Nat) (hB : B < 2 ^ n) (a : n < 2 * lenT A) (b : n < 2 * lenT B) : 0 < lenT (A &&& B) := by
  have := lenT_two A B
  have := lenT_n n h7 _ (Nat.or_lt_two_pow hA hB)
  omega

set_option maxHeartbeats 400000 in
theorem walk (a b n : Int) (w : World) (ha : I64 a) (hb : I64 b) (hn : I64 n) :
    Calls Try.prog 6 #[.int .i64 a, .int .i64 b, .int .i64 n] w fun e w' => e = .returned (.bool true) ∧ Below w.heap.size w w' := by
  by_cases hA : mostT a n = true
  · by_cases hB : mostT b n = true
    · have hl : 0 < lenT (a.toNat &&& b.toNat) := by
        simp [mostT] at hA hB
        obtain ⟨hma, hA⟩ := hA
        obtain ⟨hmb, hB⟩ := hB
        obtain ⟨h3, h7, a0, a1⟩ := mayT_iff.1 hma
        obtain ⟨_, _, b0, b1⟩ := mayT_iff.1 hmb
        obtain ⟨N, rfl⟩ := Int.eq_ofNat_of_zero_le (show 0 ≤ n by omega)
        obtain ⟨A, rfl⟩ := Int.eq_ofNat_of_zero_le a0
        obtain ⟨B, rfl⟩ := Int.eq_ofNat_of_zero_le b0
        rw [Int.toNat_natCast] at a1 b1 hA hB
        exact meet N (by omega) A (by exact_mod_cast a1) B (by exact_mod_cast b1) (by omega) (by omega)
      have hab : 0 ≤ a ∧ a < 128 := mayT_lt (by simp [mostT] at hA; exact hA.1)
      have hbb : 0 ≤ b ∧ b < 128 := mayT_lt (by simp [mostT] at hB; exact hB.1)
      have hlt : a.toNat &&& b.toNat < 128 := Nat.lt_of_le_of_lt Nat.and_le_left (by omega)
      have hm : ((a.toNat &&& b.toNat : Nat) : Int) % 128 = ((a.toNat &&& b.toNat : Nat) : Int) := by omega
      have hd : decide (0 < ((lenT (a.toNat &&& b.toNat) : Nat) : Int)) = true := by simpa using hl
      go_enter Try.func6, Try.ntmps6
      go_wp2_with fail
      refine (b3_any _).mono ?_
      rintro e w1 ⟨rfl, hb1⟩
      go_wp2_with (first
        | (go_at_call 22; refine (most_any _ _ _).mono ?_; rintro e w' ⟨rfl, rfl⟩)
        | (go_at_call 19; refine (and_any _ _ _ hab hbb).mono ?_; rintro e w' ⟨rfl, rfl⟩)
        | (go_at_call 15; refine (len_any _ _).mono ?_; rintro e w' ⟨rfl, rfl⟩))
      go_ret
      exact ⟨rfl, hb1⟩
    · have hB : mostT b n = false := by simpa using hB
      go_enter Try.func6, Try.ntmps6
      go_wp2_with fail
      refine (b3_any _).mono ?_
      rintro e w1 ⟨rfl, hb1⟩
      go_wp2_with (first
        | (go_at_call 22; refine (most_any _ _ _).mono ?_; rintro e w' ⟨rfl, rfl⟩)
        | fail)
      go_ret
      exact ⟨rfl, hb1⟩
  · have hA : mostT a n = false := by simpa using hA
    go_enter Try.func6, Try.ntmps6
    go_wp2_with fail
    refine (b3_any _).mono ?_
    rintro e w1 ⟨rfl, hb1⟩
    go_wp2_with (first
      | (go_at_call 22; refine (most_any _ _ _).mono ?_; rintro e w' ⟨rfl, rfl⟩)
      | fail)
    go_ret
    exact ⟨rfl, hb1⟩

/-! the row's step, written out by law.py -/
set_option maxRecDepth 100000 in
theorem lifted (os : Os) (started : os.Started) (H : Type) (enc : TypeId × Value → H) :
    ReturnsInHanded {} Try.checked os 6 .any (Rows.teamMeetSpec.pre6 enc Try.prog Try.f6 Rows.teamMeetRow.domain false) (Rows.teamMeetSpec.post enc Try.prog Try.f6 false true false false) := by
  refine returnsInHanded_of_change (C := Try.checked) own started (by kernel_rfl) Try.func6
    (ChangeSpec.witness6 (enc := enc) (C := Try.checked) false ⟨#[], #[.int .i64 0, .int .i64 0, .int .i64 0], []⟩ 8 (by kernel_rfl) (by kernel_rfl) (by kernel_rfl) (by kernel_rfl)) ?_
  intro W base args ds gs before hval0 hW hcnd _
  have hval : ∀ (j : Nat) t v, Try.f6.params[j]? = some t → args[j]? = some v → Value.okWide Try.prog W .any base t v := hval0
  have hW' := hW
  obtain ⟨p, q, hA0, hV, rfl, hfz, hnd⟩ := hW
  have hA : DataW.TrodAll enc Try.prog W 0 (fun _ => true) true Try.f6.params.toList args.toList ds p := hA0
  rw [Try.params6] at hA hval
  obtain ⟨v0, vs0, d0, ds0, p0, q0, hargs, rfl, rfl, h0, r0⟩ := trodAll_cons hA
  obtain ⟨v1, vs1, d1, ds1, p1, q1, rfl, rfl, rfl, h1, r1⟩ := trodAll_cons r0
  obtain ⟨v2, vs2, d2, ds2, p2, q2, rfl, rfl, rfl, h2, r2⟩ := trodAll_cons r1
  obtain ⟨rfl, rfl, rfl⟩ := trodAll_nil r2
  obtain rfl : args = #[v0, v1, v2] := by cases args; simp_all
  obtain ⟨rfl, rfl⟩ := trodVars_none hV
  have k0 := h0
  have lt0 : ∀ x ∈ p0, x.block < W.heap.size := by obtain ⟨m, hm⟩ := k0; exact DataW.trod_lt m _ _ _ hm
  have k1 := h1
  have lt1 : ∀ x ∈ p1, x.block < W.heap.size := by obtain ⟨m, hm⟩ := k1; exact DataW.trod_lt m _ _ _ hm
  have k2 := h2
  have lt2 : ∀ x ∈ p2, x.block < W.heap.size := by obtain ⟨m, hm⟩ := k2; exact DataW.trod_lt m _ _ _ hm
  obtain ⟨a0, rfl, rfl, rfl, w0⟩ := open_int Try.underlying3 (hval 0 3 v0 rfl rfl) h0
  have w0 := bounds_i64 w0
  obtain ⟨a1, rfl, rfl, rfl, w1⟩ := open_int Try.underlying3 (hval 1 3 v1 rfl rfl) h1
  have w1 := bounds_i64 w1
  obtain ⟨a2, rfl, rfl, rfl, w2⟩ := open_int Try.underlying3 (hval 2 3 v2 rfl rfl) h2
  have w2 := bounds_i64 w2
  clear hA0 hval0
  simp only [List.append_nil] at hW'
  refine (walk a0 a1 a2 W w0 w1 w2).mono fun e W' ⟨he, bel⟩ => ?_
  subst he
  exact ⟨_, rfl, _, _, _, [], _, [], hW', trodAll_mk1 (shut_bool Try.underlying4 _), (trodAll_cons_mk (Below.trod laidOut (by kernel_rfl) (of_decide_eq_true (by kernel_rfl)) k0 bel lt0) (trodAll_cons_mk (Below.trod laidOut (by kernel_rfl) (of_decide_eq_true (by kernel_rfl)) k1 bel lt1) (trodAll_cons_mk (Below.trod laidOut (by kernel_rfl) (of_decide_eq_true (by kernel_rfl)) k2 bel lt2) trodAll_mk0))), rfl, bel.frame _, fun h => by cases h⟩

theorem over : Rows.teamMeetRow.holds Try.pinned (OpenSpec.ofChange Rows.teamMeetSpec) :=
  OpenClaim.holds_of_wide 6 Try.f6 rfl rfl rfl rfl rfl rfl rfl ⟨rfl, rfl, rfl, rfl, rfl⟩ rfl rfl rfl rfl rfl (by kernel_rfl) Try.func6 (by kernel_rfl)
    (of_decide_eq_true (by kernel_rfl)) (by unfold Func.isWrapper; first | (rw [if_pos (by decide +kernel)]; kernel_rfl) | (rw [if_neg (by decide +kernel)]; exact ⟨rfl, rfl⟩))
    (fun os started H enc _ => lifted os started H enc)

theorem proved : Rows.TeamMeetSaid := over
end Go.Proofs.Ytfhfhljjhgdbiaa.lawTeamMeet
