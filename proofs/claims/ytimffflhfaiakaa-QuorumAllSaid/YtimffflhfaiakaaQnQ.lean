/- What most members have; plain. -/
import Derived.Test.YtimffflhfaiakaaQnO
import Derived.Test.YtimffflhfaiakaaTeamR
import Derived.Test.YtimffflhfaiakaaPlanD
import Derived.Deep.OwnRows
import Derived.Laws.OwnMore
namespace Go.Proofs.Ytimffflhfaiakaa
open Go.RowKit
set_option linter.unusedVariables false

theorem tmod_fix (x m : Int) (hm : 0 < m) : (x.tmod m + m).tmod m = x % m := by
  have h1 := Int.tmod_lt_of_pos x hm
  have h2 : -m < x.tmod m := by
    have := Int.lt_tmod_of_pos x hm
    omega
  rw [Int.tmod_eq_emod_of_nonneg (by omega)]
  have h3 := Int.mul_tdiv_add_tmod x m
  have h4 : x.tmod m + m = x + m * (1 - x.tdiv m) := by rw [Int.mul_sub]; omega
  rw [h4, Int.add_mul_emod_self_left]

theorem count_listTo (T : Nat) (q : Int → Bool) : ∀ k, (listTo T k).countP q = (List.range k).countP (fun i => hasT T ((i + 1 : Nat) : Int) && q ((i + 1 : Nat) : Int)) := by
  intro k
  induction k with
  | zero => simp [listTo]
  | succ k ih =>
    rw [List.range_succ, List.countP_append]
    by_cases h : hasT T ((k + 1 : Nat) : Int) = true
    · rw [listTo_yes h, List.countP_append, ih]
      simp only [List.countP_cons, List.countP_nil, h, Bool.true_and]
    · have h' : hasT T ((k + 1 : Nat) : Int) = false := by simpa using h
      rw [listTo_no h', ih]
      simp only [List.countP_cons, List.countP_nil, h', Bool.false_and]
      simp
theorem has_above {T n i : Nat} (hT : T < 2 ^ n) (hi : n ≤ i) : hasT T ((i + 1 : Nat) : Int) = false := by
  have : T.testBit i = false := Nat.testBit_lt_two_pow (Nat.lt_of_lt_of_le hT (Nat.pow_le_pow_right (by decide) hi))
  unfold hasT
  rw [show ((i + 1 : Nat) : Int).toNat - 1 = i by omega, this, Bool.and_false]
theorem count_listT {T n : Nat} (hT : T < 2 ^ n) (hn : n ≤ 7) (q : Int → Bool) : (listT T).countP q = (List.range n).countP (fun i => hasT T ((i + 1 : Nat) : Int) && q ((i + 1 : Nat) : Int)) := by
  rw [listT, count_listTo]
  obtain ⟨d, hd⟩ : ∃ d, 7 = n + d := ⟨7 - n, by omega⟩
  rw [hd, List.range_add, List.countP_append]
  have : ((List.range d).map (n + ·)).countP (fun i => hasT T ((i + 1 : Nat) : Int) && q ((i + 1 : Nat) : Int)) = 0 := by
    rw [List.countP_eq_zero]
    intro x hx
    obtain ⟨y, _, rfl⟩ := List.mem_map.1 hx
    rw [has_above hT (Nat.le_add_right n y)]
    simp
  rw [this, Nat.add_zero]

/-- of the members, most have the middle number or more; not more than half have more -/
theorem most_count {T n : Nat} {H : List Int} (hm : mostT T n = true) (hH : H.length = 8) (h0 : ∀ i, 0 ≤ H.getD i 0) (hz : ∀ i : Nat, hasT T (i : Int) = false → H.getD i 0 = 0) :
    n < 2 * ((listT T).map fun x => H.getD x.toNat 0).countP (fun x => decide (medS H n ≤ x)) ∧ 2 * ((listT T).map fun x => H.getD x.toNat 0).countP (fun x => decide (medS H n < x)) ≤ n ∧ 0 ≤ medS H n := by
  obtain ⟨hn3, hn7, hT, hmo, hTn⟩ := mostT_has hm
  have hTn' : T < 2 ^ n := by
    rw [Int.toNat_natCast] at hTn
    exact_mod_cast hTn
  obtain ⟨a, b⟩ := medS_count hH (n := n) (by omega) (by omega)
  have hc : 0 ≤ medS H n := by
    obtain ⟨i, _, e⟩ := medS_in hH (n := n) (by omega) (by omega)
    rw [e]; exact h0 _
  generalize medS H n = c at a b hc ⊢
  have key : ∀ q : Int → Bool, (∀ i, i < n → q (H.getD (i + 1) 0) = true → H.getD (i + 1) 0 ≠ 0) →
      ((listT T).map fun x => H.getD x.toNat 0).countP q = (List.range n).countP (fun i => q (H.getD (i + 1) 0)) := by
    intro q hq
    rw [List.countP_map, count_listT hTn' (by omega)]
    refine List.countP_congr fun i hi => ?_
    have hin := List.mem_range.1 hi
    simp only [Function.comp, Int.toNat_natCast, Bool.and_eq_true]
    constructor
    · exact fun h => h.2
    · intro h
      refine ⟨?_, h⟩
      cases hh : hasT T ((i + 1 : Nat) : Int)
      · exact absurd (hz _ hh) (hq i hin h)
      · rfl
  refine ⟨?_, ?_, hc⟩
  · by_cases hc0 : c = 0
    · have : ((listT T).map fun x => H.getD x.toNat 0).countP (fun x => decide (c ≤ x)) = ((listT T).map fun x => H.getD x.toNat 0).length := by
        rw [List.countP_eq_length]
        intro x hx
        obtain ⟨y, _, rfl⟩ := List.mem_map.1 hx
        simp only [decide_eq_true_eq, hc0]
        exact h0 _
      rw [this, List.length_map, listT_len T hT]
      omega
    · rw [key _ (fun i _ h => by simp only [decide_eq_true_eq] at h; omega)]
      exact a
  · rw [key _ (fun i _ h => by simp only [decide_eq_true_eq] at h; omega)]
    exact b

/-- a row of ints, whole -/
def gO (w : World) (b : Nat) (G : List Int) (E : TypeId) : Prop := w.heap[b]? = some (.cells (intsV G).toArray E (0, 0))
theorem gO_get (G : List Int) {j : Nat} (hj : j < G.length) : ((intsV G).toArray : Array Value)[j]? = some (.int .i64 G[j]) := by simp [intsV, hj]
theorem gO_set (G : List Int) (j : Nat) (x : Int) : ((intsV G).toArray : Array Value).setIfInBounds j (.int .i64 x) = (intsV (G.set j x)).toArray := by
  unfold intsV
  rw [List.map_set]
  simp
theorem made_gO (n : Nat) : madeCells #[Value.int .i64 0] n = (intsV (List.replicate n 0)).toArray := by
  apply Array.ext'
  rw [toList_madeCells_one]
  simp [intsV]
theorem gO.chg {w w' : World} {b : Nat} {G : List Int} {E : TypeId} {F : Nat → Prop} (h : gO w b G E) (hc : Chg F w w') (hF : ¬ F b) : gO w' b G E := at_chg h hc hF
theorem gO.cell {w : World} {b : Nat} {G : List Int} {E : TypeId} (h : gO w b G E) {j : Nat} (hj : j < G.length) : w.cell? ⟨b, j, none⟩ = some (.int .i64 G[j]) := by rw [cell_at h, gO_get G hj]
theorem qO.chg {w w' : World} {F : Nat → Prop} {b : Nat} {n mem me : Int} {H P : List Int} {last : Int} (h : qO w b n mem me H P last) (hc : Chg F w w') (hF : ¬ F b) : qO w' b n mem me H P last := ⟨at_chg h.1 hc hF, h.2⟩
/-- while members' numbers are heard: G is what was got, member by member -/
structure QM (T n m : Nat) (L : List Int) (E : TypeId) (w5 wr : World) (b nb : Nat) (H P G : List Int) (last : Int) (k : Nat) : Prop where
  q : qO wr b n T m H P last
  g : gO wr nb G E
  e : G = L.map fun y => H.getD y.toNat 0
  h0 : ∀ i, 0 ≤ H.getD i 0
  hz : ∀ i : Nat, hasT T (i : Int) = false → H.getD i 0 = 0
  left : ∀ j (h : j < L.length), k ≤ j → H.getD L[j].toNat 0 = 0
  chg : Chg (fun j => j = b ∨ j = nb) w5 wr
theorem count_take {G : List Int} {k : Nat} (hk : k < G.length) (q : Int → Bool) : (G.take (k + 1)).countP q = (G.take k).countP q + if q G[k] then 1 else 0 := by
  rw [List.take_succ_eq_append_getElem hk, List.countP_append]
  simp only [List.countP_cons, List.countP_nil, Nat.zero_add]
theorem gO.set {w : World} {b : Nat} {G : List Int} {E : TypeId} (h : gO w b G E) (j : Nat) (x : Int) : gO (w.setCell ⟨b, j, none⟩ (.int .i64 x)) b (G.set j x) E := by
  have := set_at (o := j) (u := .int .i64 x) h
  rw [gO_set] at this
  exact this
theorem listT_nodup {T : Nat} (hT : T < 128) : (listT T).Nodup := by
  have : ∀ T < 128, (listT T).Nodup := by decide +kernel
  exact this T hT
/-- what is had, member by member -/
theorem map_step {L : List Int} {H : List Int} {k : Nat} {x : Int} (hd : L.Nodup) (hL : ∀ y ∈ L, 1 ≤ y ∧ y ≤ 7) (hH : H.length = 8) (hk : k < L.length) :
    (L.map fun y => H.getD y.toNat 0).set k x = L.map fun y => (H.set L[k].toNat x).getD y.toNat 0 := by
  apply List.ext_getElem
  · simp
  · intro i h1 h2
    simp at h1 h2
    have hLk := hL L[k] (List.getElem_mem hk)
    have hLi := hL L[i] (List.getElem_mem h2)
    rw [List.getElem_set, List.getElem_map, List.getElem_map, getD_set (by omega)]
    by_cases hik : k = i
    · subst hik; simp
    · have hne : L[k] ≠ L[i] := fun e => hik ((List.getElem_inj hd).1 e)
      have hne2 : ¬ L[i].toNat = L[k].toNat := by omega
      rw [if_neg hik, if_neg hne2]
/-- the same, where what was got lies in an array by processes: it is H itself -/
structure QMt (T n m : Nat) (L : List Int) (E : TypeId) (w5 wr : World) (b nb : Nat) (H P : List Int) (k : Nat) : Prop where
  q : qO wr b n T m H P 0
  g : gO wr nb H E
  h0 : ∀ i, 0 ≤ H.getD i 0
  hz : ∀ i : Nat, hasT T (i : Int) = false → H.getD i 0 = 0
  left : ∀ j (h : j < L.length), k ≤ j → H.getD L[j].toNat 0 = 0
  chg : Chg (fun j => j = b ∨ j = nb) w5 wr
theorem set_facts {T : Nat} {L H : List Int} {k id : Nat} {Y : Int} (hd : L.Nodup) (hL : ∀ y ∈ L, hasT T y = true ∧ 1 ≤ y ∧ y ≤ 7) (hH : H.length = 8) (hk : k < L.length) (hid : L[k] = (id : Int)) (hY : 0 ≤ Y) (h0 : ∀ i, 0 ≤ H.getD i 0)
    (hz : ∀ i : Nat, hasT T (i : Int) = false → H.getD i 0 = 0) (hl : ∀ j (h : j < L.length), k ≤ j → H.getD L[j].toNat 0 = 0) :
    (L.map fun y => H.getD y.toNat 0).set k Y = (L.map fun y => (H.set id Y).getD y.toNat 0) ∧ (∀ i, 0 ≤ (H.set id Y).getD i 0) ∧ (∀ i : Nat, hasT T (i : Int) = false → (H.set id Y).getD i 0 = 0) ∧ (∀ j (h : j < L.length), k + 1 ≤ j → (H.set id Y).getD L[j].toNat 0 = 0) ∧ max (H.getD id 0) Y = Y := by
  have hb := hL L[k] (List.getElem_mem hk)
  have hid7 : id < H.length := by omega
  have hidn : L[k].toNat = id := by omega
  refine ⟨?_, fun i => ?_, fun i hi => ?_, fun j hj hkj => ?_, ?_⟩
  · rw [← hidn]; exact map_step hd (fun y hy => (hL y hy).2) hH hk
  · rw [getD_set hid7]
    have := h0 i
    split <;> omega
  · rw [getD_set hid7]
    have : ¬ i = id := by
      rintro rfl
      rw [hid] at hb
      rw [hb.1] at hi; cases hi
    rw [if_neg this]; exact hz i hi
  · rw [getD_set hid7]
    have hj2 := hL L[j] (List.getElem_mem hj)
    have : ¬ L[j].toNat = id := by
      intro e
      have : L[j] = L[k] := by omega
      have := (List.getElem_inj hd).1 this
      omega
    rw [if_neg this]; exact hl j hj (by omega)
  · have := hl k hk (Nat.le_refl _)
    rw [hidn] at this
    omega
end Go.Proofs.Ytimffflhfaiakaa
