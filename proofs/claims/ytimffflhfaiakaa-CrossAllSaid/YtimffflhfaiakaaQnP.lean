/- Who has how much: as data, in memory, and what most have; plain. -/
import Derived.Test.YtimffflhfaiakaaSortI
import Derived.Test.YtimffflhfaiakaaTeamQ
namespace Go.Proofs.Ytimffflhfaiakaa
open Go.RowKit
set_option linter.unusedVariables false

theorem eight (H : List Int) (h : H.length = 8) : ∃ a b c d e f g i, H = [a, b, c, d, e, f, g, i] := by
  match H, h with
  | [a, b, c, d, e, f, g, i], _ => exact ⟨a, b, c, d, e, f, g, i, rfl⟩
def qC (n mem me : Int) (H P : List Int) (last : Int) : Array Value :=
  (.int .i64 n :: .int .i64 mem :: .int .i64 me :: (H.map (Value.int .i64) ++ P.map (Value.int .i64) ++ [.int .i64 last])).toArray
theorem qC_last {n mem me : Int} {H P : List Int} {last : Int} (hH : H.length = 8) (hP : P.length = 8) : (qC n mem me H P last)[19]? = some (.int .i64 last) := by
  obtain ⟨a, b, c, d, e, f, g, i, rfl⟩ := eight H hH
  obtain ⟨a, b, c, d, e, f, g, i, rfl⟩ := eight P hP
  rfl
theorem qC_H {n mem me : Int} {H P : List Int} {last : Int} (hH : H.length = 8) (hP : P.length = 8) {i : Nat} (hi : i < 8) : (qC n mem me H P last)[3 + i]? = some (.int .i64 (H.getD i 0)) := by
  obtain ⟨a, b, c, d, e, f, g, i, rfl⟩ := eight H hH
  obtain ⟨a, b, c, d, e, f, g, i, rfl⟩ := eight P hP
  rename_i j _ _ _ _ _ _ _ _
  rcases (by omega : j = 0 ∨ j = 1 ∨ j = 2 ∨ j = 3 ∨ j = 4 ∨ j = 5 ∨ j = 6 ∨ j = 7) with rfl | rfl | rfl | rfl | rfl | rfl | rfl | rfl <;> rfl
theorem qC_P {n mem me : Int} {H P : List Int} {last : Int} (hH : H.length = 8) (hP : P.length = 8) {i : Nat} (hi : i < 8) : (qC n mem me H P last)[11 + i]? = some (.int .i64 (P.getD i 0)) := by
  obtain ⟨a, b, c, d, e, f, g, i, rfl⟩ := eight H hH
  obtain ⟨a, b, c, d, e, f, g, i, rfl⟩ := eight P hP
  rename_i j _ _ _ _ _ _ _ _
  rcases (by omega : j = 0 ∨ j = 1 ∨ j = 2 ∨ j = 3 ∨ j = 4 ∨ j = 5 ∨ j = 6 ∨ j = 7) with rfl | rfl | rfl | rfl | rfl | rfl | rfl | rfl <;> rfl
theorem qC_setH {n mem me : Int} {H P : List Int} {last : Int} (hH : H.length = 8) (hP : P.length = 8) {i : Nat} (hi : i < 8) (x : Int) : (qC n mem me H P last).setIfInBounds (3 + i) (.int .i64 x) = qC n mem me (H.set i x) P last := by
  obtain ⟨a, b, c, d, e, f, g, i, rfl⟩ := eight H hH
  obtain ⟨a, b, c, d, e, f, g, i, rfl⟩ := eight P hP
  rename_i j _ _ _ _ _ _ _ _
  rcases (by omega : j = 0 ∨ j = 1 ∨ j = 2 ∨ j = 3 ∨ j = 4 ∨ j = 5 ∨ j = 6 ∨ j = 7) with rfl | rfl | rfl | rfl | rfl | rfl | rfl | rfl <;> rfl
theorem qC_setP {n mem me : Int} {H P : List Int} {last : Int} (hH : H.length = 8) (hP : P.length = 8) {i : Nat} (hi : i < 8) (x : Int) : (qC n mem me H P last).setIfInBounds (11 + i) (.int .i64 x) = qC n mem me H (P.set i x) last := by
  obtain ⟨a, b, c, d, e, f, g, i, rfl⟩ := eight H hH
  obtain ⟨a, b, c, d, e, f, g, i, rfl⟩ := eight P hP
  rename_i j _ _ _ _ _ _ _ _
  rcases (by omega : j = 0 ∨ j = 1 ∨ j = 2 ∨ j = 3 ∨ j = 4 ∨ j = 5 ∨ j = 6 ∨ j = 7) with rfl | rfl | rfl | rfl | rfl | rfl | rfl | rfl <;> rfl
theorem qC_setL {n mem me : Int} {H P : List Int} {last : Int} (hH : H.length = 8) (hP : P.length = 8) (x : Int) : (qC n mem me H P last).setIfInBounds 19 (.int .i64 x) = qC n mem me H P x := by
  obtain ⟨a, b, c, d, e, f, g, i, rfl⟩ := eight H hH
  obtain ⟨a, b, c, d, e, f, g, i, rfl⟩ := eight P hP
  rfl

/-- a count of who has how much, in memory -/
def qO (w : World) (b : Nat) (n mem me : Int) (H P : List Int) (last : Int) : Prop :=
  w.heap[b]? = some (.cells (qC n mem me H P last) 74 (0, 0)) ∧ H.length = 8 ∧ P.length = 8
theorem qO.below {w w' : World} {b : Nat} {n mem me : Int} {H P : List Int} {last : Int} (h : qO w b n mem me H P last) (hb : Below w.heap.size w w') : qO w' b n mem me H P last := ⟨at_below h.1 hb, h.2⟩

/-- what most of 1 to n have -/
def medS (H : List Int) (n : Nat) : Int := (sortI ((H.drop 1).take n)).getD ((n - 1) / 2) 0

theorem take_le {l : List Int} (hs : l.Pairwise (· ≤ ·)) {m : Nat} (hm : m < l.length) :
    l.length - m ≤ l.countP (fun x => decide (l[m] ≤ x)) ∧ l.countP (fun x => decide (l[m] < x)) ≤ l.length - m - 1 := by
  have hp := List.pairwise_iff_getElem.1 hs
  have e : l = l.take (m + 1) ++ l.drop (m + 1) := (List.take_append_drop _ _).symm
  have e2 : l = l.take m ++ l.drop m := (List.take_append_drop _ _).symm
  generalize hc : l[m] = c
  constructor
  · have h1 : (l.drop m).countP (fun x => decide (c ≤ x)) = (l.drop m).length := by
      rw [List.countP_eq_length]
      intro x hx
      obtain ⟨j, hj, rfl⟩ := List.getElem_of_mem hx
      rw [List.length_drop] at hj
      rw [List.getElem_drop]
      simp only [decide_eq_true_eq]
      rw [← hc]
      rcases Nat.eq_zero_or_pos j with rfl | h0
      · exact Int.le_refl _
      · exact hp m (m + j) hm (by omega) (by omega)
    have h2 : l.countP (fun x => decide (c ≤ x)) = (l.take m).countP (fun x => decide (c ≤ x)) + (l.drop m).countP (fun x => decide (c ≤ x)) := by
      conv => lhs; rw [e2]
      rw [List.countP_append]
    rw [h2, h1, List.length_drop]
    omega
  · have h1 : (l.take (m + 1)).countP (fun x => decide (c < x)) = 0 := by
      rw [List.countP_eq_zero]
      intro x hx
      obtain ⟨j, hj, rfl⟩ := List.getElem_of_mem hx
      rw [List.length_take] at hj
      rw [List.getElem_take]
      simp only [decide_eq_true_eq]
      rw [← hc]
      rcases Nat.lt_or_ge j m with h0 | h0
      · have := hp j m (by omega) hm h0; omega
      · have : j = m := by omega
        subst this; omega
    have h2 : l.countP (fun x => decide (c < x)) = (l.take (m + 1)).countP (fun x => decide (c < x)) + (l.drop (m + 1)).countP (fun x => decide (c < x)) := by
      conv => lhs; rw [e]
      rw [List.countP_append]
    rw [h2, h1]
    have h3 := List.countP_le_length (p := fun x => decide (c < x)) (l := l.drop (m + 1))
    rw [List.length_drop] at h3
    omega
/-- of n numbers, more than half are the middle one or more, and not more than half are more -/
theorem med_count {l : List Int} {n : Nat} (hl : l.length = n) (h1 : 1 ≤ n) :
    n < 2 * l.countP (fun x => decide ((sortI l).getD ((n - 1) / 2) 0 ≤ x)) ∧ 2 * l.countP (fun x => decide ((sortI l).getD ((n - 1) / 2) 0 < x)) ≤ n := by
  have hls := sortI_len l
  have hm : (n - 1) / 2 < (sortI l).length := by omega
  have he : (sortI l).getD ((n - 1) / 2) 0 = (sortI l)[(n - 1) / 2] := by simp [List.getD, hm]
  obtain ⟨a, b⟩ := take_le (sortI_sorted l) hm
  rw [he]
  rw [(sortI_perm l).countP_eq] at a b
  omega
theorem med_in {l : List Int} {n : Nat} (hl : l.length = n) (h1 : 1 ≤ n) : (sortI l).getD ((n - 1) / 2) 0 ∈ l := by
  have hls := sortI_len l
  have hm : (n - 1) / 2 < (sortI l).length := by omega
  have he : (sortI l).getD ((n - 1) / 2) 0 = (sortI l)[(n - 1) / 2] := by simp [List.getD, hm]
  rw [he]
  exact (sortI_perm l).mem_iff.1 (List.getElem_mem hm)
end Go.Proofs.Ytimffflhfaiakaa
