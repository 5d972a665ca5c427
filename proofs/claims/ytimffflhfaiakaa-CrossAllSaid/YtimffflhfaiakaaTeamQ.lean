/- Plain laws of teams, more: what with, without, and have. -/
import Derived.Test.YtimffflhfaiakaaTeamP
namespace Go.Proofs.Ytimffflhfaiakaa
open Go.RowKit

theorem hasT_in (T : Nat) {i : Int} (h1 : 1 ≤ i) (h7 : i ≤ 7) : hasT T i = T.testBit (i.toNat - 1) := by rw [hasT, isB_yes h1 h7, Bool.true_and]
theorem hasT_out (T : Nat) {i : Int} (h : ¬ (1 ≤ i ∧ i ≤ 7)) : hasT T i = false := by rw [hasT, isB_no h, Bool.false_and]
theorem wout_bit : ∀ T, T < 128 → ∀ k, k < 7 → ∀ j, j < 7 → (T &&& (18446744073709551615 - 2 ^ k)).testBit j = (T.testBit j && !(j == k)) := by decide +kernel
theorem has_with (T : Nat) (id i : Int) : hasT (withT T id) i = (hasT T i || (i == id && isB i)) := by
  by_cases hi : 1 ≤ i ∧ i ≤ 7
  · by_cases hd : 1 ≤ id ∧ id ≤ 7
    · rw [hasT_in _ hi.1 hi.2, hasT_in _ hi.1 hi.2, withT, if_pos (isB_yes hd.1 hd.2), Nat.testBit_or, Nat.testBit_two_pow, isB_yes hi.1 hi.2, Bool.and_true]
      congr 1
      rw [Bool.eq_iff_iff, beq_iff_eq, decide_eq_true_iff]
      omega
    · have e : (i == id) = false := by rw [beq_eq_false_iff_ne]; rintro rfl; exact hd hi
      rw [withT, if_neg (by rw [isB_no hd]; exact Bool.false_ne_true), e]; simp
  · rw [hasT_out _ hi, hasT_out _ hi, isB_no hi]; simp
theorem has_wout {T : Nat} (hT : T < 128) (id i : Int) : hasT (woutT T id) i = (hasT T i && !(i == id)) := by
  by_cases hi : 1 ≤ i ∧ i ≤ 7
  · by_cases hd : 1 ≤ id ∧ id ≤ 7
    · rw [hasT_in _ hi.1 hi.2, hasT_in _ hi.1 hi.2, woutT, if_pos (isB_yes hd.1 hd.2), wout_bit T hT _ (by omega) _ (by omega)]
      congr 2
      rw [Bool.eq_iff_iff, beq_iff_eq, beq_iff_eq]
      omega
    · have e : (i == id) = false := by rw [beq_eq_false_iff_ne]; rintro rfl; exact hd hi
      rw [woutT, if_neg (by rw [isB_no hd]; exact Bool.false_ne_true), e]; simp
  · rw [hasT_out _ hi, hasT_out _ hi]; simp
theorem has_and (A B : Nat) (i : Int) : hasT (A &&& B) i = (hasT A i && hasT B i) := by
  by_cases hi : 1 ≤ i ∧ i ≤ 7
  · rw [hasT_in _ hi.1 hi.2, hasT_in _ hi.1 hi.2, hasT_in _ hi.1 hi.2, Nat.testBit_and]
  · rw [hasT_out _ hi, hasT_out _ hi]; simp
theorem has_zero (i : Int) : hasT 0 i = false := by simp [hasT]
/-- a team is what it has -/
theorem team_ext {A B : Nat} (hA : A < 128) (hB : B < 128) (h : ∀ i : Int, 1 ≤ i → i ≤ 7 → hasT A i = hasT B i) : A = B := by
  refine Nat.eq_of_testBit_eq fun j => ?_
  by_cases hj : j < 7
  · have := h ((j : Int) + 1) (by omega) (by omega)
    rw [hasT_in _ (by omega) (by omega), hasT_in _ (by omega) (by omega)] at this
    simpa using this
  · have e : ∀ X, X < 128 → X.testBit j = false := fun X hX => Nat.testBit_lt_two_pow (Nat.lt_of_lt_of_le hX (by
      have : 2 ^ 7 ≤ 2 ^ j := Nat.pow_le_pow_right (by decide) (by omega)
      simpa using this))
    rw [e A hA, e B hB]
theorem foldl_lt (l : List Int) : ∀ T, T < 128 → l.foldl withT T < 128 := by
  induction l with
  | nil => exact fun T h => h
  | cons x l ih => exact fun T h => ih _ (withT_lt x h)
theorem has_foldl (l : List Int) (i : Int) : ∀ T, hasT (l.foldl withT T) i = (hasT T i || (l.contains i && isB i)) := by
  induction l with
  | nil => simp
  | cons x l ih =>
    intro T
    rw [List.foldl_cons, ih, has_with, List.contains_cons]
    cases hasT T i <;> cases (i == x) <;> cases isB i <;> cases l.contains i <;> rfl
end Go.Proofs.Ytimffflhfaiakaa
