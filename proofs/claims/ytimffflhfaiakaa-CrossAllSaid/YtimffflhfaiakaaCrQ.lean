/- Where counts may change: rising, and what they are; plain. -/
import Derived.Test.YtimffflhfaiakaaCrP
namespace Go.Proofs.Ytimffflhfaiakaa
open Go.RowKit
set_option linter.unusedVariables false

theorem compact_sorted (d : Array Int) (hs : ∀ i j, i < j → j < d.size → d[i]! ≤ d[j]!) : ∀ m, m ≤ d.size →
    (Lib.compactUpTo d m).Pairwise (· < ·) ∧ (∀ x, x ∈ Lib.compactUpTo d m ↔ ∃ j, j < m ∧ d[j]! = x) := by
  intro m
  induction m with
  | zero => exact fun _ => ⟨by simp [Lib.compactUpTo], fun x => by simp [Lib.compactUpTo]⟩
  | succ m ih =>
    intro hm
    obtain ⟨h1, h2⟩ := ih (by omega)
    rw [Lib.compactUpTo_succ]
    by_cases hk : Lib.keeps d m = true
    · rw [if_pos hk]
      refine ⟨?_, fun x => ?_⟩
      · rw [List.pairwise_append]
        refine ⟨h1, by simp, fun x hx y hy => ?_⟩
        rw [List.mem_singleton] at hy
        subst hy
        obtain ⟨j, hj, rfl⟩ := (h2 x).1 hx
        rcases Nat.eq_zero_or_pos m with rfl | h0
        · omega
        · have hne : d[m]! ≠ d[m - 1]! := by
            intro e
            have := Lib.keeps_neg h0 e
            rw [this] at hk; cases hk
          have a := hs (m - 1) m (by omega) (by omega)
          rcases Nat.lt_or_ge j (m - 1) with h | h
          · have := hs j (m - 1) h (by omega); omega
          · have : j = m - 1 := by omega
            subst this; omega
      · rw [List.mem_append, List.mem_singleton, h2]
        constructor
        · rintro (⟨j, hj, e⟩ | rfl)
          · exact ⟨j, by omega, e⟩
          · exact ⟨m, by omega, rfl⟩
        · rintro ⟨j, hj, e⟩
          by_cases h : j < m
          · exact .inl ⟨j, h, e⟩
          · have : j = m := by omega
            subst this; exact .inr e.symm
    · rw [if_neg hk, List.append_nil]
      refine ⟨h1, fun x => ?_⟩
      rw [h2]
      have h0 : 0 < m := by
        rcases Nat.eq_zero_or_pos m with rfl | h0
        · exact absurd (Lib.keeps_lt_one d 0 (by omega)) hk
        · exact h0
      have he : d[m]! = d[m - 1]! := by
        rcases Decidable.em (d[m]! = d[m - 1]!) with h | h
        · exact h
        · exact absurd (Lib.keeps_pos h) hk
      constructor
      · rintro ⟨j, hj, e⟩; exact ⟨j, by omega, e⟩
      · rintro ⟨j, hj, e⟩
        by_cases h : j < m
        · exact ⟨j, h, e⟩
        · have : j = m := by omega
          subst this
          exact ⟨j - 1, by omega, by rw [← he]; exact e⟩
theorem starts_spec (l : List Rg) : (startsR l).Pairwise (· < ·) ∧ ∀ x, x ∈ startsR l ↔ x ∈ rawS l := by
  have hp := List.pairwise_iff_getElem.1 (sortI_sorted (rawS l))
  have hs : ∀ i j, i < j → j < (sortI (rawS l)).toArray.size → (sortI (rawS l)).toArray[i]! ≤ (sortI (rawS l)).toArray[j]! := by
    intro i j hij hj
    have hj' : j < (sortI (rawS l)).length := by simpa using hj
    have hi' : i < (sortI (rawS l)).length := by omega
    have := hp i j hi' hj' hij
    simpa [hi', hj'] using this
  obtain ⟨h1, h2⟩ := compact_sorted _ hs (sortI (rawS l)).length (by simp)
  refine ⟨h1, fun x => ?_⟩
  rw [← (sortI_perm (rawS l)).mem_iff]
  show x ∈ Lib.compactUpTo _ _ ↔ _
  rw [h2]
  constructor
  · rintro ⟨j, hj, e⟩
    rw [← e]
    have : (sortI (rawS l)).toArray[j]! = (sortI (rawS l))[j] := by simp [hj]
    rw [this]
    exact List.getElem_mem hj
  · intro hx
    obtain ⟨j, hj, rfl⟩ := List.getElem_of_mem hx
    exact ⟨j, hj, by simp [hj]⟩
/-- each range's ends are numbers of 64 bits -/
def okR (l : List Rg) : Prop := ∀ r ∈ l, I64 r.low ∧ I64 r.high
theorem raw_range {l : List Rg} (h : okR l) : ∀ x ∈ rawS l, I64 x := by
  intro x hx
  obtain ⟨r, hr, hx⟩ := List.mem_flatMap.1 hx
  obtain ⟨⟨a, b⟩, ⟨c, d⟩⟩ := h r hr
  unfold rawR at hx
  split at hx
  · cases hx
  · split at hx
    · rename_i h2
      simp only [List.mem_cons, List.not_mem_nil, or_false] at hx
      unfold maxI at h2
      rcases hx with rfl | rfl
      · exact ⟨a, b⟩
      · exact ⟨by omega, by omega⟩
    · simp only [List.mem_cons, List.not_mem_nil, or_false] at hx
      subst hx; exact ⟨a, b⟩
theorem starts_range {l : List Rg} (h : okR l) : ∀ x ∈ startsR l, I64 x := fun x hx => raw_range h x (((starts_spec l).2 x).1 hx)
theorem runs_ok {S : List Int} (hs : S.Pairwise (· < ·)) (hI : ∀ x ∈ S, I64 x) : ∀ i, i < S.length → I64 (runR S i).low ∧ I64 (runR S i).high ∧ (runR S i).low ≤ (runR S i).high := by
  intro i hi
  have hp := List.pairwise_iff_getElem.1 hs
  obtain ⟨a, b⟩ := hI _ (List.getElem_mem hi)
  have e1 : S.getD i 0 = S[i] := by simp [List.getD, hi]
  unfold runR
  dsimp only
  rw [e1]
  by_cases h : i + 1 < S.length
  · have e2 : S.getD (i + 1) 0 = S[i + 1] := by simp [List.getD, h]
    rw [if_pos h, e2]
    obtain ⟨c, d⟩ := hI _ (List.getElem_mem h)
    have := hp i (i + 1) hi h (by omega)
    exact ⟨⟨a, b⟩, ⟨by omega, by omega⟩, by omega⟩
  · rw [if_neg h]
    exact ⟨⟨a, b⟩, ⟨by unfold maxI; omega, by unfold maxI; omega⟩, by unfold maxI; omega⟩
theorem runs_range {l : List Rg} (h : okR l) : ∀ r ∈ runsR (startsR l), I64 r.low ∧ I64 r.high ∧ r.low ≤ r.high := by
  intro r hr
  obtain ⟨i, hi, rfl⟩ := List.mem_map.1 hr
  exact runs_ok (starts_spec l).1 (starts_range h) i (List.mem_range.1 hi)
theorem runsR_len (S : List Int) : (runsR S).length = S.length := by simp [runsR]
theorem starts_len (l : List Rg) : (startsR l).length ≤ 2 * l.length := by
  have h1 := Lib.compact_length_le (sortI (rawS l))
  have h2 := sortI_len (rawS l)
  have h3 := rawS_len l
  unfold startsR
  omega
end Go.Proofs.Ytimffflhfaiakaa
