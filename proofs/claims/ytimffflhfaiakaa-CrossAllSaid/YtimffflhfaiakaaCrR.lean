/- What most have, and where so many do; plain. -/
import Derived.Test.YtimffflhfaiakaaCrD
namespace Go.Proofs.Ytimffflhfaiakaa
open Go.RowKit
set_option linter.unusedVariables false

theorem up_getD {S : List Int} (hs : S.Pairwise (· < ·)) {i j : Nat} (hij : i < j) (hj : j < S.length) : S.getD i 0 < S.getD j 0 := by
  have hi : i < S.length := by omega
  rw [show S.getD i 0 = S[i] by simp [List.getD, hi], show S.getD j 0 = S[j] by simp [List.getD, hj]]
  exact List.pairwise_iff_getElem.1 hs i j hi hj hij
theorem up_le {S : List Int} (hs : S.Pairwise (· < ·)) {i j : Nat} (hij : i ≤ j) (hj : j < S.length) : S.getD i 0 ≤ S.getD j 0 := by
  rcases Nat.lt_or_eq_of_le hij with h | rfl
  · have := up_getD hs h hj; omega
  · exact Int.le_refl _
theorem mem_getD {S : List Int} {x : Int} : x ∈ S ↔ ∃ i, i < S.length ∧ S.getD i 0 = x := by
  constructor
  · intro h
    obtain ⟨i, hi, rfl⟩ := List.getElem_of_mem h
    exact ⟨i, hi, by simp [List.getD, hi]⟩
  · rintro ⟨i, hi, rfl⟩
    rw [show S.getD i 0 = S[i] by simp [List.getD, hi]]
    exact List.getElem_mem hi
theorem high_next {S : List Int} {i : Nat} (h : i + 1 < S.length) : (runR S i).high = S.getD (i + 1) 0 - 1 := by unfold runR; rw [if_pos h]
theorem high_last {S : List Int} {i : Nat} (h : ¬ i + 1 < S.length) : (runR S i).high = maxI := by unfold runR; rw [if_neg h]
theorem find_run {S : List Int} (t : Int) (ht : t ≤ maxI) : (∀ x ∈ S, t < x) ∨ ∃ i, i < S.length ∧ S.getD i 0 ≤ t ∧ t ≤ (runR S i).high := by
  have key : ∀ k, k ≤ S.length → (∀ j, j < k → t < S.getD j 0) ∨ ∃ i, i < k ∧ S.getD i 0 ≤ t ∧ ∀ j, j < k → i < j → t < S.getD j 0 := by
    intro k
    induction k with
    | zero => exact fun _ => .inl fun j hj => by omega
    | succ k ih =>
      intro hk
      by_cases h : S.getD k 0 ≤ t
      · exact .inr ⟨k, by omega, h, fun j hj hkj => by omega⟩
      · rcases ih (by omega) with h1 | ⟨i, hi, h1, h2⟩
        · refine .inl fun j hj => ?_
          by_cases e : j = k
          · subst e; omega
          · exact h1 j (by omega)
        · refine .inr ⟨i, by omega, h1, fun j hj hij => ?_⟩
          by_cases e : j = k
          · subst e; omega
          · exact h2 j (by omega) hij
  rcases key S.length (Nat.le_refl _) with h | ⟨i, hi, h1, h2⟩
  · refine .inl fun x hx => ?_
    obtain ⟨j, hj, rfl⟩ := mem_getD.1 hx
    exact h j hj
  · refine .inr ⟨i, hi, h1, ?_⟩
    by_cases h : i + 1 < S.length
    · have := h2 (i + 1) h (by omega)
      rw [high_next h]; omega
    · rw [high_last h]; exact ht
theorem le_start {S : List Int} (hs : S.Pairwise (· < ·)) {i : Nat} (hi : i < S.length) {t x : Int} (ht : t ≤ (runR S i).high) (hx : x ∈ S) (hxt : x ≤ t) : x ≤ S.getD i 0 := by
  obtain ⟨j, hj, rfl⟩ := mem_getD.1 hx
  rcases Nat.lt_or_ge i j with h | h
  · have h1 : i + 1 < S.length := by omega
    rw [high_next h1] at ht
    have := up_le hs (show i + 1 ≤ j by omega) hj
    omega
  · exact up_le hs h hi
theorem raw_mem {l : List Rg} {r : Rg} (hr : r ∈ l) (h : r.low ≤ r.high) : r.low ∈ startsR l ∧ (r.high < maxI → r.high + 1 ∈ startsR l) := by
  have h' : ¬ r.high < r.low := by omega
  have key : ∀ x, x ∈ rawR r → x ∈ startsR l := fun x hx => ((starts_spec l).2 x).2 (List.mem_flatMap.2 ⟨r, hr, hx⟩)
  refine ⟨key _ ?_, fun h2 => key _ ?_⟩
  · unfold rawR; rw [if_neg h']; split <;> simp
  · unfold rawR; rw [if_neg h', if_pos h2]; simp
theorem cnt_run {l : List Rg} (hok : okR l) {i : Nat} (hi : i < (startsR l).length) {t : Int} (h1 : (startsR l).getD i 0 ≤ t) (h2 : t ≤ (runR (startsR l) i).high) : cntR l t = cntR l ((startsR l).getD i 0) := by
  unfold cntR
  refine List.countP_congr fun r hr => ?_
  have hs := (starts_spec l).1
  by_cases hlo : r.low ≤ r.high
  · obtain ⟨a, b⟩ := raw_mem hr hlo
    obtain ⟨_, _, hm⟩ := hok r hr
    have e1 : r.low ≤ t → r.low ≤ (startsR l).getD i 0 := fun h => le_start hs hi h2 a h
    have e2 : r.high < t → r.high < (startsR l).getD i 0 := fun h => by
      by_cases hb : r.high < maxI
      · have := le_start hs hi h2 (b hb) (by omega); omega
      · have hl : t ≤ maxI := by
          have := (runs_ok hs (starts_range hok) i hi).2.1.2
          unfold maxI; omega
        omega
    unfold inR
    simp only [Bool.and_eq_true, decide_eq_true_eq]
    constructor
    · rintro ⟨p, q⟩; exact ⟨e1 p, by omega⟩
    · rintro ⟨p, q⟩
      refine ⟨by omega, ?_⟩
      rcases Int.lt_or_le r.high t with h | h
      · have := e2 h; omega
      · exact h
  · unfold inR
    simp only [Bool.and_eq_true, decide_eq_true_eq]
    constructor <;> (rintro ⟨p, q⟩; omega)
theorem cnt_low {l : List Rg} {t : Int} (h : ∀ x ∈ startsR l, t < x) : cntR l t = 0 := by
  unfold cntR
  rw [List.countP_eq_zero]
  intro r hr hc
  unfold inR at hc
  simp only [Bool.and_eq_true, decide_eq_true_eq] at hc
  have := h _ (raw_mem hr (by omega)).1
  omega
abbrev cR (l : List Rg) (j : Nat) : Nat := cntR l ((startsR l).getD j 0)
/-- a time's count is that of its run, or none -/
theorem cnt_any {l : List Rg} (hok : okR l) {t : Int} (ht : t ≤ maxI) : cntR l t = 0 ∨ ∃ i, i < (startsR l).length ∧ (startsR l).getD i 0 ≤ t ∧ t ≤ (runR (startsR l) i).high ∧ cntR l t = cR l i := by
  rcases find_run (S := startsR l) t ht with h | ⟨i, hi, h1, h2⟩
  · exact .inl (cnt_low h)
  · exact .inr ⟨i, hi, h1, h2, cnt_run hok hi h1 h2⟩

/-! the best run -/
def bestK (l : List Rg) (k : Nat) : Rg × Nat := ((List.range k).map (runR (startsR l))).foldl (bestStep l) (⟨0, 0⟩, 0)
theorem bestR_K (l : List Rg) : bestR l = bestK l (startsR l).length := rfl
theorem bestK_succ (l : List Rg) (k : Nat) : bestK l (k + 1) = bestStep l (bestK l k) (runR (startsR l) k) := by
  unfold bestK
  rw [List.range_succ, List.map_append, List.foldl_append]; rfl
structure BestI (l : List Rg) (k : Nat) (b : Rg) (n : Nat) : Prop where
  top : ∀ j, j < k → cR l j ≤ n
  none : n = 0 → b = ⟨0, 0⟩
  at_ : 0 < n → ∃ i0 i1, i0 ≤ i1 ∧ i1 < k ∧ b.low = (startsR l).getD i0 0 ∧ b.high = (runR (startsR l) i1).high ∧ (∀ j, i0 ≤ j → j ≤ i1 → cR l j = n) ∧ (∀ j, j < i0 → cR l j < n) ∧ (i1 + 1 < k → cR l (i1 + 1) ≠ n)
theorem best_inv (l : List Rg) (hok : okR l) : ∀ k, k ≤ (startsR l).length → BestI l k (bestK l k).1 (bestK l k).2 := by
  have hs := (starts_spec l).1
  have hI := starts_range hok
  intro k
  induction k with
  | zero => exact fun _ => ⟨fun j hj => by omega, fun _ => rfl, fun h => absurd h (by simp [bestK])⟩
  | succ k ih =>
    intro hk
    obtain ⟨h1, h2, h3⟩ := ih (by omega)
    rw [bestK_succ]
    obtain ⟨⟨b, n⟩, hb⟩ : ∃ x, bestK l k = x := ⟨_, rfl⟩
    rw [hb] at h1 h2 h3 ⊢
    dsimp only at h1 h2 h3
    have hlow : (runR (startsR l) k).low = (startsR l).getD k 0 := rfl
    unfold bestStep
    dsimp only
    rw [hlow]
    by_cases c1 : n < cntR l ((startsR l).getD k 0)
    · rw [if_pos c1]
      refine ⟨fun j hj => ?_, fun h => ?_, fun _ => ⟨k, k, Nat.le_refl _, by omega, hlow, rfl, fun j a b => ?_, fun j hj => ?_, fun h => by omega⟩⟩
      · by_cases e : j = k
        · subst e; exact Nat.le_refl _
        · have := h1 j (by omega); dsimp only; omega
      · dsimp only at h; omega
      · obtain rfl : j = k := by omega
        rfl
      · have := h1 j hj; dsimp only; omega
    · rw [if_neg c1]
      have hle : cR l k ≤ n := by unfold cR; omega
      by_cases c2 : cntR l ((startsR l).getD k 0) = n ∧ 0 < n ∧ b.high < maxI ∧ (startsR l).getD k 0 = b.high + 1
      · rw [if_pos c2]
        obtain ⟨e1, e2, e3, e4⟩ := c2
        obtain ⟨i0, i1, a1, a2, a3, a4, a5, a6, a7⟩ := h3 e2
        have hi1 : i1 + 1 < (startsR l).length := by omega
        rw [high_next hi1] at a4
        have hik : i1 + 1 = k := by
          rcases Nat.lt_or_ge (i1 + 1) k with h | h
          · have := up_getD hs h (by omega : k < (startsR l).length)
            omega
          · omega
        refine ⟨fun j hj => ?_, fun h => ?_, fun _ => ⟨i0, k, by omega, by omega, a3, rfl, fun j p q => ?_, a6, fun h => by omega⟩⟩
        · by_cases e : j = k
          · subst e; exact hle
          · exact h1 j (by omega)
        · dsimp only at h; omega
        · by_cases e : j = k
          · subst e; exact e1
          · exact a5 j p (by omega)
      · rw [if_neg c2]
        refine ⟨fun j hj => ?_, h2, fun h0 => ?_⟩
        · by_cases e : j = k
          · subst e; exact hle
          · exact h1 j (by omega)
        · obtain ⟨i0, i1, a1, a2, a3, a4, a5, a6, a7⟩ := h3 h0
          refine ⟨i0, i1, a1, by omega, a3, a4, a5, a6, fun h => ?_⟩
          by_cases e : i1 + 1 = k
          · intro hc
            have hi1 : i1 + 1 < (startsR l).length := by omega
            rw [high_next hi1, e] at a4
            rw [e] at hc
            have hm : (startsR l).getD k 0 ≤ maxI := (hI _ (mem_getD.2 ⟨k, by omega, rfl⟩)).2
            exact c2 ⟨hc, h0, by omega, by omega⟩
          · exact a7 (by omega)
structure BestS (l : List Rg) (b : Rg) (n : Nat) : Prop where
  top : ∀ t, t ≤ maxI → cntR l t ≤ n
  none : n = 0 → b = ⟨0, 0⟩
  rng : 0 < n → I64 b.low ∧ I64 b.high ∧ b.low ≤ b.high
  same : 0 < n → ∀ t, b.low ≤ t → t ≤ b.high → cntR l t = n
  after : 0 < n → b.high < maxI → cntR l (b.high + 1) ≠ n
  before : 0 < n → cntR l (b.low - 1) ≠ n
theorem best_spec (l : List Rg) (hok : okR l) : BestS l (bestR l).1 (bestR l).2 := by
  have hs := (starts_spec l).1
  have hI := starts_range hok
  have hrun := runs_ok hs hI
  rw [bestR_K]
  obtain ⟨h1, h2, h3⟩ := best_inv l hok _ (Nat.le_refl _)
  obtain ⟨⟨b, n⟩, hb⟩ : ∃ x, bestK l (startsR l).length = x := ⟨_, rfl⟩
  rw [hb] at h1 h2 h3 ⊢
  dsimp only at h1 h2 h3 ⊢
  refine ⟨fun t ht => ?_, h2, fun h0 => ?_, fun h0 t t1 t2 => ?_, fun h0 hm => ?_, fun h0 => ?_⟩
  · rcases cnt_any hok ht with h | ⟨i, hi, _, _, h⟩
    · omega
    · rw [h]; exact h1 i hi
  all_goals obtain ⟨i0, i1, a1, a2, a3, a4, a5, a6, a7⟩ := h3 h0
  · obtain ⟨p1, p2, p3⟩ := hrun i0 (by omega)
    obtain ⟨q1, q2, q3⟩ := hrun i1 a2
    have hl1 : (runR (startsR l) i0).low = (startsR l).getD i0 0 := rfl
    have hl2 : (runR (startsR l) i1).low = (startsR l).getD i1 0 := rfl
    have := up_le hs a1 a2
    rw [a3, a4]
    exact ⟨p1, q2, by omega⟩
  · have htm : t ≤ maxI := by
      have := (hrun i1 a2).2.1.2
      unfold maxI; omega
    rw [a3] at t1
    rw [a4] at t2
    rcases find_run (S := startsR l) t htm with h | ⟨i, hi, e1, e2⟩
    · have := h _ (mem_getD.2 ⟨i0, by omega, rfl⟩); omega
    · rw [cnt_run hok hi e1 e2]
      refine a5 i ?_ ?_
      · rcases Nat.lt_or_ge i i0 with h | h
        · have h1 : i + 1 < (startsR l).length := by omega
          rw [high_next h1] at e2
          have := up_le hs (show i + 1 ≤ i0 by omega) (by omega)
          omega
        · exact h
      · rcases Nat.lt_or_ge i1 i with h | h
        · have h1 : i1 + 1 < (startsR l).length := by omega
          rw [high_next h1] at t2
          have := up_le hs (show i1 + 1 ≤ i by omega) hi
          omega
        · exact h
  · rw [a4] at hm ⊢
    by_cases h1 : i1 + 1 < (startsR l).length
    · rw [high_next h1, show (startsR l).getD (i1 + 1) 0 - 1 + 1 = (startsR l).getD (i1 + 1) 0 by omega]
      exact a7 h1
    · rw [high_last h1] at hm; omega
  · rw [a3]
    have htm : (startsR l).getD i0 0 - 1 ≤ maxI := by
      have := (hrun i0 (by omega)).1.2
      have hl1 : (runR (startsR l) i0).low = (startsR l).getD i0 0 := rfl
      unfold maxI; omega
    rcases cnt_any hok htm with h | ⟨i, hi, e1, _, h⟩
    · omega
    · rw [h]
      have : i < i0 := by
        rcases Nat.lt_or_ge i i0 with h | h
        · exact h
        · have := up_le hs h hi; omega
      have := a6 i this
      omega

/-! where so many do -/
structure MostS (l : List Rg) (n : Int) (h : Rg) (ok : Bool) : Prop where
  no : ok = false → h = ⟨0, 0⟩ ∧ ∀ t, t ≤ maxI → (cntR l t : Int) < n
  rng : ok = true → I64 h.low ∧ I64 h.high
  low : ok = true → n ≤ (cntR l h.low : Int)
  high : ok = true → n ≤ (cntR l h.high : Int)
  all : ok = true → ∀ t, t ≤ maxI → n ≤ (cntR l t : Int) → h.low ≤ t ∧ t ≤ h.high
theorem most_spec (l : List Rg) (hok : okR l) (n : Int) (hn : 1 ≤ n) : MostS l n (mostR l n).1 (mostR l n).2 := by
  have hs := (starts_spec l).1
  have hI := starts_range hok
  have hrun := runs_ok hs hI
  have hA : (runsR (startsR l)).filter (manyP l n) = ((List.range (startsR l).length).filter fun j => decide (n ≤ (cR l j : Int))).map (runR (startsR l)) := by
    unfold runsR
    rw [List.filter_map]
    congr 1
    refine List.filter_congr fun j hj => ?_
    show (decide (1 ≤ n) && decide (n ≤ (cR l j : Int))) = _
    rw [decide_eq_true hn, Bool.true_and]
  rw [mostR_ends, hA]
  have hJ : ∀ j, j ∈ ((List.range (startsR l).length).filter fun j => decide (n ≤ (cR l j : Int))) ↔ j < (startsR l).length ∧ n ≤ (cR l j : Int) := fun j => by
    rw [List.mem_filter, List.mem_range, decide_eq_true_eq]
  have hP : ((List.range (startsR l).length).filter fun j => decide (n ≤ (cR l j : Int))).Pairwise (· < ·) := List.Pairwise.filter _ List.pairwise_lt_range
  generalize ((List.range (startsR l).length).filter fun j => decide (n ≤ (cR l j : Int))) = J at hJ hP
  clear hA
  by_cases h0 : J.length = 0
  · obtain rfl : J = [] := List.eq_nil_of_length_eq_zero h0
    refine ⟨fun _ => ⟨rfl, fun t ht => ?_⟩, fun h => by simp [endsR] at h, fun h => by simp [endsR] at h, fun h => by simp [endsR] at h, fun h => by simp [endsR] at h⟩
    rcases cnt_any hok ht with h | ⟨i, hi, _, _, h⟩
    · omega
    · rw [h]
      rcases Int.lt_or_le (cR l i : Int) n with h | h
      · exact h
      · exact absurd ((hJ i).2 ⟨hi, h⟩) (by simp)
  · obtain ⟨m, hm⟩ : ∃ m, J.length = m + 1 := ⟨J.length - 1, by omega⟩
    have hP' := List.pairwise_iff_getElem.1 hP
    have e : endsR (J.map (runR (startsR l))) = (⟨(startsR l).getD (J[0]'(by omega)) 0, (runR (startsR l) (J[m]'(by omega))).high⟩, true) := by
      rw [endsR_pos (m := m) (by simpa using hm)]
      simp only [List.getElem_map]
      rfl
    rw [e]
    obtain ⟨a1, a2⟩ := (hJ _).1 (List.getElem_mem (show 0 < J.length by omega))
    obtain ⟨b1, b2⟩ := (hJ _).1 (List.getElem_mem (show m < J.length by omega))
    have hJlo : ∀ j ∈ J, J[0]'(by omega) ≤ j ∧ j ≤ J[m]'(by omega) := by
      intro j hj
      obtain ⟨k, hk, rfl⟩ := List.getElem_of_mem hj
      constructor
      · rcases Nat.eq_zero_or_pos k with rfl | h
        · exact Nat.le_refl _
        · exact Nat.le_of_lt (hP' 0 k (by omega) hk h)
      · rcases Nat.lt_or_ge k m with h | h
        · exact Nat.le_of_lt (hP' k m hk (by omega) h)
        · obtain rfl : k = m := by omega
          exact Nat.le_refl _
    generalize J[0]'(by omega) = j0 at *
    generalize J[m]'(by omega) = j1 at *
    obtain ⟨p1, p2, p3⟩ := hrun j0 a1
    obtain ⟨q1, q2, q3⟩ := hrun j1 b1
    refine ⟨fun h => by simp at h, fun _ => ⟨p1, q2⟩, fun _ => a2, fun _ => ?_, fun _ t ht hc => ?_⟩
    · dsimp only
      rw [cnt_run hok b1 q3 (Int.le_refl _)]
      exact b2
    · dsimp only
      rcases cnt_any hok ht with h | ⟨i, hi, e1, e2, h⟩
      · omega
      · rw [h] at hc
        obtain ⟨c1, c2⟩ := hJlo i ((hJ i).2 ⟨hi, hc⟩)
        have := up_le hs c1 hi
        refine ⟨by omega, ?_⟩
        rcases Nat.lt_or_eq_of_le c2 with h' | rfl
        · have h1 : i + 1 < (startsR l).length := by omega
          rw [high_next h1] at e2
          have := up_le hs (show i + 1 ≤ j1 by omega) b1
          have hl1 : (runR (startsR l) j1).low = (startsR l).getD j1 0 := rfl
          omega
        · exact e2
end Go.Proofs.Ytimffflhfaiakaa
