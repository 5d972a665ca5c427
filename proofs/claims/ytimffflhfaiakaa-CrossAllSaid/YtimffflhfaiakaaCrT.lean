/- What the reference picks is the same; plain. -/
import Derived.Test.YtimffflhfaiakaaCrS
namespace Go.Proofs.Ytimffflhfaiakaa
open Go.RowKit
set_option linter.unusedVariables false

def pickStep (l : List Rg) (a : Int × Nat) (r : Rg) : Int × Nat :=
  if r.low ≤ r.high ∧ (a.2 < cntR l r.low ∨ (cntR l r.low = a.2 ∧ r.low < a.1)) then (r.low, cntR l r.low) else a
def pickR (l : List Rg) : Int × Nat := l.foldl (pickStep l) (0, 0)
theorem cnt_pos {l : List Rg} {r : Rg} (hr : r ∈ l) (h : r.low ≤ r.high) : 0 < cntR l r.low := by
  unfold cntR
  rw [List.countP_pos_iff]
  exact ⟨r, hr, by unfold inR; simp [h]⟩
structure PickI (l A : List Rg) (lo : Int) (n : Nat) : Prop where
  top : ∀ r ∈ A, r.low ≤ r.high → cntR l r.low ≤ n ∧ (cntR l r.low = n → lo ≤ r.low)
  none : n = 0 → lo = 0
  at_ : 0 < n → ∃ r ∈ A, r.low = lo ∧ cntR l lo = n
theorem pick_inv (l : List Rg) : ∀ k, k ≤ l.length → PickI l (l.take k) ((l.take k).foldl (pickStep l) (0, 0)).1 ((l.take k).foldl (pickStep l) (0, 0)).2 := by
  intro k
  induction k with
  | zero => exact fun _ => ⟨fun r hr => by simp at hr, fun _ => rfl, fun h => absurd h (by simp)⟩
  | succ k ih =>
    intro hk
    obtain ⟨h1, h2, h3⟩ := ih (by omega)
    have hlt : k < l.length := by omega
    rw [foldl_take _ _ l k hlt, List.take_succ_eq_append_getElem hlt]
    have hm : l[k] ∈ l := List.getElem_mem hlt
    obtain ⟨⟨lo, n⟩, hs⟩ : ∃ x, (l.take k).foldl (pickStep l) (0, 0) = x := ⟨_, rfl⟩
    rw [hs] at h1 h2 h3 ⊢
    dsimp only at h1 h2 h3
    generalize l.take k = A at h1 h2 h3
    generalize l[k] = x at hm
    unfold pickStep
    dsimp only
    by_cases hc : x.low ≤ x.high ∧ (n < cntR l x.low ∨ (cntR l x.low = n ∧ x.low < lo))
    · rw [if_pos hc]
      obtain ⟨c1, c2⟩ := hc
      have hp := cnt_pos hm c1
      refine ⟨fun r hr hn => ?_, fun h => ?_, fun _ => ⟨x, by simp, rfl, rfl⟩⟩
      · rcases List.mem_append.1 hr with hr | hr
        · obtain ⟨a1, a2⟩ := h1 r hr hn
          dsimp only
          refine ⟨by omega, fun h => ?_⟩
          have := a2 (by omega)
          omega
        · obtain rfl : r = x := by simpa using hr
          exact ⟨Nat.le_refl _, fun _ => Int.le_refl _⟩
      · dsimp only at h; omega
    · rw [if_neg hc]
      refine ⟨fun r hr hn => ?_, h2, fun h => ?_⟩
      · rcases List.mem_append.1 hr with hr | hr
        · exact h1 r hr hn
        · obtain rfl : r = x := by simpa using hr
          dsimp only
          refine ⟨?_, fun h => ?_⟩
          · rcases Nat.lt_or_ge n (cntR l r.low) with h | h
            · exact absurd ⟨hn, .inl h⟩ hc
            · exact h
          · rcases Int.lt_or_le r.low lo with h' | h'
            · exact absurd ⟨hn, .inr ⟨h, h'⟩⟩ hc
            · exact h'
      · obtain ⟨r, a, b⟩ := h3 h
        exact ⟨r, List.mem_append_left _ a, b⟩
theorem low_is {l : List Rg} {t : Int} (h : cntR l (t - 1) < cntR l t) : ∃ r ∈ l, r.low = t ∧ r.low ≤ r.high := by
  refine Classical.byContradiction fun hn => ?_
  have : cntR l t ≤ cntR l (t - 1) := by
    unfold cntR
    refine List.countP_mono_left fun r hr hp => ?_
    unfold inR at hp ⊢
    simp only [Bool.and_eq_true, decide_eq_true_eq] at hp ⊢
    by_cases e : r.low = t
    · exact absurd ⟨r, hr, e, by omega⟩ hn
    · omega
  omega
theorem high_is {l : List Rg} {t : Int} (h : cntR l (t + 1) < cntR l t) : ∃ r ∈ l, r.high = t ∧ r.low ≤ r.high := by
  refine Classical.byContradiction fun hn => ?_
  have : cntR l t ≤ cntR l (t + 1) := by
    unfold cntR
    refine List.countP_mono_left fun r hr hp => ?_
    unfold inR at hp ⊢
    simp only [Bool.and_eq_true, decide_eq_true_eq] at hp ⊢
    by_cases e : r.high = t
    · exact absurd ⟨r, hr, e, by omega⟩ hn
    · omega
  omega
theorem cnt_has {l : List Rg} {t : Int} (h : 0 < cntR l t) : ∃ r ∈ l, r.low ≤ t ∧ t ≤ r.high := by
  unfold cntR at h
  rw [List.countP_pos_iff] at h
  obtain ⟨r, hr, hp⟩ := h
  unfold inR at hp
  simp only [Bool.and_eq_true, decide_eq_true_eq] at hp
  exact ⟨r, hr, hp⟩
theorem best_first (l : List Rg) (hok : okR l) (h0 : 0 < (bestR l).2) : ∀ t, t < (bestR l).1.low → cntR l t < (bestR l).2 := by
  have hs := (starts_spec l).1
  have hI := starts_range hok
  have hrun := runs_ok hs hI
  rw [bestR_K] at h0 ⊢
  obtain ⟨h1, h2, h3⟩ := best_inv l hok _ (Nat.le_refl _)
  obtain ⟨⟨b, n⟩, hb⟩ : ∃ x, bestK l (startsR l).length = x := ⟨_, rfl⟩
  rw [hb] at h0 h1 h2 h3 ⊢
  dsimp only at h0 h1 h2 h3 ⊢
  obtain ⟨i0, i1, a1, a2, a3, a4, a5, a6, a7⟩ := h3 h0
  intro t ht
  rw [a3] at ht
  have htm : t ≤ maxI := by
    have := (hrun i0 (by omega)).1.2
    have hl1 : (runR (startsR l) i0).low = (startsR l).getD i0 0 := rfl
    unfold maxI; omega
  rcases cnt_any hok htm with h | ⟨i, hi, e1, _, h⟩
  · omega
  · rw [h]
    have : i < i0 := by
      rcases Nat.lt_or_ge i i0 with h | h
      · exact h
      · have := up_le hs h hi; omega
    exact a6 i this
theorem ok_low {l : List Rg} (hok : okR l) {r : Rg} (hr : r ∈ l) : r.low ≤ maxI ∧ r.high ≤ maxI := by
  obtain ⟨⟨_, a⟩, ⟨_, b⟩⟩ := hok r hr
  unfold maxI
  exact ⟨by omega, by omega⟩
theorem pick_best (l : List Rg) (hok : okR l) : (pickR l).2 = (bestR l).2 ∧ (0 < (bestR l).2 → (pickR l).1 = (bestR l).1.low) := by
  have S := best_spec l hok
  have F := best_first l hok
  have K := pick_inv l l.length (Nat.le_refl _)
  rw [List.take_length] at K
  have hp : l.foldl (pickStep l) (0, 0) = pickR l := rfl
  rw [hp] at K
  clear hp
  generalize pickR l = p at K
  generalize bestR l = q at S F
  obtain ⟨lo, n⟩ := p
  obtain ⟨b, m⟩ := q
  dsimp only at S F K ⊢
  obtain ⟨k1, k2, k3⟩ := K
  have e1 : n ≤ m := by
    rcases Nat.eq_zero_or_pos n with h | h
    · omega
    · obtain ⟨r, hr, rfl, e⟩ := k3 h
      have := S.top _ (ok_low hok hr).1
      omega
  have hL : 0 < m → ∃ r ∈ l, r.low = b.low ∧ r.low ≤ r.high := fun h => by
    have a1 := S.same h b.low (Int.le_refl _) (S.rng h).2.2
    have a2 := F h (b.low - 1) (by omega)
    exact low_is (by omega)
  have e2 : m ≤ n := by
    rcases Nat.eq_zero_or_pos m with h | h
    · omega
    · obtain ⟨r, hr, e, hne⟩ := hL h
      have a1 := S.same h b.low (Int.le_refl _) (S.rng h).2.2
      have a2 := (k1 r hr hne).1
      rw [e] at a2
      omega
  obtain rfl : n = m := by omega
  refine ⟨rfl, fun h => ?_⟩
  obtain ⟨r, hr, e, hne⟩ := hL h
  have a1 := S.same h b.low (Int.le_refl _) (S.rng h).2.2
  have a2 := (k1 r hr hne).2 (by rw [e]; exact a1)
  rw [e] at a2
  obtain ⟨_, _, _, a3⟩ := k3 h
  rcases Int.lt_or_le lo b.low with h' | h'
  · have := F h lo h'; omega
  · omega

/-! where its run ends -/
theorem end_fold (t : Int) : ∀ (l : List Rg) (a : Int), l.foldl (endStep t) a ≤ a ∧ (∀ r ∈ l, inR r t = true → l.foldl (endStep t) a ≤ r.high) ∧ (t ≤ a → t ≤ l.foldl (endStep t) a) := by
  intro l
  induction l with
  | nil => exact fun a => ⟨Int.le_refl _, fun r hr => by simp at hr, fun h => h⟩
  | cons x l ih =>
    intro a
    rw [List.foldl_cons]
    obtain ⟨h1, h2, h3⟩ := ih (endStep t a x)
    have hle : endStep t a x ≤ a := by unfold endStep; split <;> omega
    refine ⟨by omega, fun r hr hp => ?_, fun ha => h3 ?_⟩
    · rcases List.mem_cons.1 hr with rfl | hr
      · have : endStep t a r ≤ r.high := by unfold endStep; rw [if_pos hp]; omega
        omega
      · exact h2 r hr hp
    · unfold endStep
      split
      · rename_i hp
        unfold inR at hp
        simp only [Bool.and_eq_true, decide_eq_true_eq] at hp
        omega
      · exact ha
structure HighI (l : List Rg) (b : Rg) (n : Nat) (h : Int) : Prop where
  lo : b.low ≤ h
  hi : h ≤ maxI
  same : ∀ t, b.low ≤ t → t ≤ h → cntR l t = n
theorem end_up {l : List Rg} {b : Rg} {n : Nat} (S : BestS l b n) {t : Int} (ht : t ≤ maxI) (hn : cntR l t = n) : t ≤ endR l t ∧ endR l t ≤ maxI ∧ ∀ u, t ≤ u → u ≤ endR l t → cntR l u = n := by
  obtain ⟨h1, h2, h3⟩ := end_fold t l maxI
  refine ⟨h3 ht, h1, fun u a1 a2 => ?_⟩
  have e1 := S.top u (by unfold endR at a2; omega)
  have e2 : cntR l t ≤ cntR l u := by
    unfold cntR
    refine List.countP_mono_left fun r hr hp => ?_
    have := h2 r hr hp
    unfold inR at hp ⊢
    unfold endR at a2
    simp only [Bool.and_eq_true, decide_eq_true_eq] at hp ⊢
    omega
  omega
theorem high_start {l : List Rg} {b : Rg} {n : Nat} (S : BestS l b n) (h0 : 0 < n) : HighI l b n (endR l b.low) := by
  have hm : b.low ≤ maxI := by
    have := (S.rng h0).1.2
    unfold maxI; omega
  obtain ⟨a, b', c⟩ := end_up S hm (S.same h0 b.low (Int.le_refl _) (S.rng h0).2.2)
  exact ⟨a, b', c⟩
theorem high_go {l : List Rg} {b : Rg} {n : Nat} {h : Int} (S : BestS l b n) (I : HighI l b n h) (h1 : h < maxI) (h2 : cntR l (h + 1) = n) : HighI l b n (endR l (h + 1)) ∧ h < endR l (h + 1) := by
  obtain ⟨a, b', c⟩ := end_up S (by omega) h2
  have := I.lo
  refine ⟨⟨by omega, b', fun t t1 t2 => ?_⟩, by omega⟩
  by_cases ht : t ≤ h
  · exact I.same t t1 ht
  · exact c t (by omega) t2
theorem high_end {l : List Rg} {b : Rg} {n : Nat} {h : Int} (S : BestS l b n) (h0 : 0 < n) (I : HighI l b n h) (hs : h < maxI → cntR l (h + 1) ≠ n) : h = b.high := by
  have hr := S.rng h0
  have hbm : b.high ≤ maxI := by
    have := hr.2.1.2
    unfold maxI; omega
  have i1 := I.lo
  have i2 := I.hi
  rcases Int.lt_trichotomy h b.high with hlt | he | hgt
  · exact absurd (S.same h0 (h + 1) (by omega) (by omega)) (hs (by omega))
  · exact he
  · exact absurd (I.same (b.high + 1) (by have := hr.2.2; omega) (by omega)) (S.after h0 (by omega))

/-! the reference's hull -/
def loStep (l : List Rg) (n : Int) (a : Bool × Int) (r : Rg) : Bool × Int :=
  if r.low ≤ r.high ∧ n ≤ (cntR l r.low : Int) ∧ (a.1 = false ∨ r.low < a.2) then (true, r.low) else a
def hiStep (l : List Rg) (n : Int) (a : Bool × Int) (r : Rg) : Bool × Int :=
  if r.low ≤ r.high ∧ n ≤ (cntR l r.high : Int) ∧ (a.1 = false ∨ a.2 < r.high) then (true, r.high) else a
structure LoI (l A : List Rg) (n : Int) (a : Bool × Int) : Prop where
  no : a.1 = false → ∀ r ∈ A, r.low ≤ r.high → (cntR l r.low : Int) < n
  yes : a.1 = true → ∃ r ∈ A, r.low = a.2 ∧ n ≤ (cntR l a.2 : Int)
  all : a.1 = true → ∀ r ∈ A, r.low ≤ r.high → n ≤ (cntR l r.low : Int) → a.2 ≤ r.low
structure HiI (l A : List Rg) (n : Int) (a : Bool × Int) : Prop where
  no : a.1 = false → ∀ r ∈ A, r.low ≤ r.high → (cntR l r.high : Int) < n
  yes : a.1 = true → ∃ r ∈ A, r.high = a.2 ∧ n ≤ (cntR l a.2 : Int)
  all : a.1 = true → ∀ r ∈ A, r.low ≤ r.high → n ≤ (cntR l r.high : Int) → r.high ≤ a.2
theorem lo_inv (l : List Rg) (n : Int) : ∀ k, k ≤ l.length → LoI l (l.take k) n ((l.take k).foldl (loStep l n) (false, 0)) := by
  intro k
  induction k with
  | zero => exact fun _ => ⟨fun _ r hr => by simp at hr, fun h => by simp at h, fun h => by simp at h⟩
  | succ k ih =>
    intro hk
    obtain ⟨h1, h2, h3⟩ := ih (by omega)
    have hlt : k < l.length := by omega
    rw [foldl_take _ _ l k hlt, List.take_succ_eq_append_getElem hlt]
    obtain ⟨⟨f, lo⟩, hs⟩ : ∃ x, (l.take k).foldl (loStep l n) (false, 0) = x := ⟨_, rfl⟩
    rw [hs] at h1 h2 h3 ⊢
    dsimp only at h1 h2 h3
    generalize l.take k = A at h1 h2 h3
    generalize l[k] = x
    unfold loStep
    dsimp only
    by_cases hc : x.low ≤ x.high ∧ n ≤ (cntR l x.low : Int) ∧ (f = false ∨ x.low < lo)
    · rw [if_pos hc]
      obtain ⟨c1, c2, c3⟩ := hc
      refine ⟨fun h => by simp at h, fun _ => ⟨x, by simp, rfl, c2⟩, fun _ r hr a1 a2 => ?_⟩
      dsimp only
      rcases List.mem_append.1 hr with hr | hr
      · cases f with
        | false => have := h1 rfl r hr a1; omega
        | true =>
          have := h3 rfl r hr a1 a2
          rcases c3 with c3 | c3
          · simp at c3
          · omega
      · obtain rfl : r = x := by simpa using hr
        exact Int.le_refl _
    · rw [if_neg hc]
      refine ⟨fun h r hr a1 => ?_, fun h => ?_, fun h r hr a1 a2 => ?_⟩
      · rcases List.mem_append.1 hr with hr | hr
        · exact h1 h r hr a1
        · obtain rfl : r = x := by simpa using hr
          rcases Int.lt_or_le (cntR l r.low : Int) n with h' | h'
          · exact h'
          · exact absurd ⟨a1, h', .inl h⟩ hc
      · obtain ⟨r, a, b⟩ := h2 h
        exact ⟨r, List.mem_append_left _ a, b⟩
      · rcases List.mem_append.1 hr with hr | hr
        · exact h3 h r hr a1 a2
        · obtain rfl : r = x := by simpa using hr
          dsimp only
          rcases Int.lt_or_le r.low lo with h' | h'
          · exact absurd ⟨a1, a2, .inr h'⟩ hc
          · exact h'
theorem hi_inv (l : List Rg) (n : Int) : ∀ k, k ≤ l.length → HiI l (l.take k) n ((l.take k).foldl (hiStep l n) (false, 0)) := by
  intro k
  induction k with
  | zero => exact fun _ => ⟨fun _ r hr => by simp at hr, fun h => by simp at h, fun h => by simp at h⟩
  | succ k ih =>
    intro hk
    obtain ⟨h1, h2, h3⟩ := ih (by omega)
    have hlt : k < l.length := by omega
    rw [foldl_take _ _ l k hlt, List.take_succ_eq_append_getElem hlt]
    obtain ⟨⟨f, lo⟩, hs⟩ : ∃ x, (l.take k).foldl (hiStep l n) (false, 0) = x := ⟨_, rfl⟩
    rw [hs] at h1 h2 h3 ⊢
    dsimp only at h1 h2 h3
    generalize l.take k = A at h1 h2 h3
    generalize l[k] = x
    unfold hiStep
    dsimp only
    by_cases hc : x.low ≤ x.high ∧ n ≤ (cntR l x.high : Int) ∧ (f = false ∨ lo < x.high)
    · rw [if_pos hc]
      obtain ⟨c1, c2, c3⟩ := hc
      refine ⟨fun h => by simp at h, fun _ => ⟨x, by simp, rfl, c2⟩, fun _ r hr a1 a2 => ?_⟩
      dsimp only
      rcases List.mem_append.1 hr with hr | hr
      · cases f with
        | false => have := h1 rfl r hr a1; omega
        | true =>
          have := h3 rfl r hr a1 a2
          rcases c3 with c3 | c3
          · simp at c3
          · omega
      · obtain rfl : r = x := by simpa using hr
        exact Int.le_refl _
    · rw [if_neg hc]
      refine ⟨fun h r hr a1 => ?_, fun h => ?_, fun h r hr a1 a2 => ?_⟩
      · rcases List.mem_append.1 hr with hr | hr
        · exact h1 h r hr a1
        · obtain rfl : r = x := by simpa using hr
          rcases Int.lt_or_le (cntR l r.high : Int) n with h' | h'
          · exact h'
          · exact absurd ⟨a1, h', .inl h⟩ hc
      · obtain ⟨r, a, b⟩ := h2 h
        exact ⟨r, List.mem_append_left _ a, b⟩
      · rcases List.mem_append.1 hr with hr | hr
        · exact h3 h r hr a1 a2
        · obtain rfl : r = x := by simpa using hr
          dsimp only
          rcases Int.lt_or_le lo r.high with h' | h'
          · exact absurd ⟨a1, a2, .inr h'⟩ hc
          · exact h'
theorem most_low {l : List Rg} {n : Int} (hn : n < 1) : mostR l n = (⟨0, 0⟩, false) := by
  have : manyR l n = [] := by
    unfold manyR
    rw [show decide (1 ≤ n) = false by simp; omega]
    simp
  unfold mostR
  rw [this]
def hullR (a b : Bool × Int) : Rg × Bool := if a.1 = true ∧ b.1 = true then (⟨a.2, b.2⟩, true) else (⟨0, 0⟩, false)
theorem hull_most (l : List Rg) (hok : okR l) (n : Int) (hn : 1 ≤ n) : hullR (l.foldl (loStep l n) (false, 0)) (l.foldl (hiStep l n) (false, 0)) = mostR l n := by
  have S := most_spec l hok n hn
  have A := lo_inv l n l.length (Nat.le_refl _)
  have B := hi_inv l n l.length (Nat.le_refl _)
  rw [List.take_length] at A B
  generalize l.foldl (loStep l n) (false, 0) = a at A
  generalize l.foldl (hiStep l n) (false, 0) = b at B
  generalize mostR l n = q at S
  obtain ⟨f, lo⟩ := a
  obtain ⟨g, hi⟩ := b
  obtain ⟨⟨hl, hh⟩, ok⟩ := q
  obtain ⟨a1, a2, a3⟩ := A
  obtain ⟨b1, b2, b3⟩ := B
  obtain ⟨s1, s2, s3, s4, s5⟩ := S
  dsimp only at *
  cases ok with
  | false =>
    obtain ⟨e, hno⟩ := s1 rfl
    have : f = false := by
      cases f with
      | false => rfl
      | true =>
        obtain ⟨r, hr, e, h⟩ := a2 rfl
        have := hno lo (by rw [← e]; exact (ok_low hok hr).1)
        omega
    subst this
    rw [e]; rfl
  | true =>
    obtain ⟨⟨p1, p2⟩, ⟨p3, p4⟩⟩ := s2 rfl
    have h1 := s3 rfl
    have h2 := s4 rfl
    have h3 := s5 rfl
    have c1 : ∃ r ∈ l, r.low = hl ∧ r.low ≤ r.high := by
      refine low_is ?_
      rcases Int.lt_or_le (cntR l (hl - 1) : Int) n with h | h
      · omega
      · have := h3 (hl - 1) (by unfold maxI; omega) h; omega
    have c2 : ∃ r ∈ l, r.high = hh ∧ r.low ≤ r.high := by
      by_cases hm : hh < maxI
      · refine high_is ?_
        rcases Int.lt_or_le (cntR l (hh + 1) : Int) n with h | h
        · omega
        · have := h3 (hh + 1) (by omega) h; omega
      · obtain ⟨r, hr, x1, x2⟩ := cnt_has (l := l) (t := hh) (by omega)
        have := (ok_low hok hr).2
        exact ⟨r, hr, by omega, by omega⟩
    obtain ⟨r, hr, rfl, hrn⟩ := c1
    obtain ⟨u, hu, rfl, hun⟩ := c2
    have hf : f = true := by
      cases f with
      | true => rfl
      | false => have := a1 rfl r hr hrn; omega
    have hg : g = true := by
      cases g with
      | true => rfl
      | false => have := b1 rfl u hu hun; omega
    subst hf hg
    have x1 := a3 rfl r hr hrn h1
    have x2 := b3 rfl u hu hun h2
    obtain ⟨y, hy, y1, y2⟩ := a2 rfl
    obtain ⟨z, hz, z1, z2⟩ := b2 rfl
    have x3 := h3 lo (by rw [← y1]; exact (ok_low hok hy).1) y2
    have x4 := h3 hi (by rw [← z1]; exact (ok_low hok hz).2) z2
    have e1 : lo = r.low := by omega
    have e2 : hi = u.high := by omega
    rw [e1, e2]; rfl
end Go.Proofs.Ytimffflhfaiakaa
