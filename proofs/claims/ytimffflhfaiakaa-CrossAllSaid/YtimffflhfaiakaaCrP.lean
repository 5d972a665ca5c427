/- Ranges: as data, in memory, and what they come to; plain. -/
import Derived.Test.YtimffflhfaiakaaSortC
import Derived.Test.YtimffflhfaiakaaRdS
namespace Go.Proofs.Ytimffflhfaiakaa
open Go.RowKit
set_option linter.unusedVariables false

structure Rg where
  low : Int
  high : Int
instance : Inhabited Rg := ⟨⟨0, 0⟩⟩
abbrev maxI : Int := 9223372036854775807
def cRg (w : World) (b o : Nat) (x : Rg) : Prop := w.cell? ⟨b, o, none⟩ = some (.int .i64 x.low) ∧ w.cell? ⟨b, o + 1, none⟩ = some (.int .i64 x.high)
theorem cRg.lt {w : World} {b o : Nat} {x : Rg} (h : cRg w b o x) : b < w.heap.size := cell_lt h.1
theorem cRg.grow (w w' : World) (b o : Nat) (x : Rg) (h : cRg w b o x) (hb : Below w.heap.size w w') : cRg w' b o x := by
  have hlt := h.lt
  have k : ∀ o, w'.cell? ⟨b, o, none⟩ = w.cell? ⟨b, o, none⟩ := fun o => hb.cell hlt
  exact ⟨by rw [k]; exact h.1, by rw [k]; exact h.2⟩
theorem cRg.chg {w w' : World} {F : Nat → Prop} {b o : Nat} {x : Rg} (h : cRg w b o x) (hc : Chg F w w') (hF : ¬ F b) : cRg w' b o x := by
  have hlt := h.lt
  have k : ∀ o, w'.cell? ⟨b, o, none⟩ = w.cell? ⟨b, o, none⟩ := fun o => World.cell?_of_block (w := w) (a := ⟨b, o, none⟩) (hc.block b hlt hF)
  exact ⟨by rw [k]; exact h.1, by rw [k]; exact h.2⟩
/-- a slice of ranges -/
abbrev rdR (w : World) (v : Value) (l : List Rg) : Prop := rdS 2 cRg w v l
abbrev Rg.cells (x : Rg) : List Value := [.int .i64 x.low, .int .i64 x.high]
def flatR (l : List Rg) : List Value := l.flatMap Rg.cells
theorem flatR_len (l : List Rg) : (flatR l).length = l.length * 2 := by
  induction l with
  | nil => rfl
  | cons x l ih => unfold flatR at ih ⊢; rw [List.flatMap_cons, List.length_append, ih]; simp; omega
theorem flatR_get (l : List Rg) (j : Nat) (h : j < l.length) (c : Nat) (hc : c < 2) : (flatR l)[j * 2 + c]? = (l[j].cells)[c]? := by
  induction l generalizing j with
  | nil => simp at h
  | cons x l ih =>
    unfold flatR at ih ⊢
    rw [List.flatMap_cons]
    cases j with
    | zero => rw [Nat.zero_mul, Nat.zero_add, List.getElem?_append_left (by simpa using hc)]; rfl
    | succ j =>
      rw [List.getElem?_append_right (by simp; omega), show (j + 1) * 2 + c - x.cells.length = j * 2 + c by simp; omega, ih j (by simpa using h)]
      rfl
theorem flatR_snoc (l : List Rg) (x : Rg) : flatR (l ++ [x]) = flatR l ++ x.cells := by
  unfold flatR; rw [List.flatMap_append]; simp
def ownR (w : World) (base : Nat) (E : TypeId) (v : Value) (l : List Rg) : Prop := w.ownsRow base E 2 v l.length (flatR l)
theorem ownR.rd {w : World} {base : Nat} {E : TypeId} {v : Value} {l : List Rg} (h : ownR w base E v l) : rdR w v l := by
  obtain ⟨hl, ⟨rfl, h0⟩ | ⟨g, cap, cur, rfl, hb, hg, hn, hc, hs, ht⟩⟩ := h
  · exact ⟨none, 0, by rw [h0], by rw [h0]; exact Nat.zero_le _, Nat.zero_le _, fun h => by omega⟩
  · refine ⟨some ⟨g, 0, none⟩, cap, rfl, hn, hc, fun _ => ⟨g, 0, rfl, fun j hj => ?_⟩⟩
    have key : ∀ c u, c < 2 → (l[j].cells)[c]? = some u → w.cell? ⟨g, 0 + j * 2 + c, none⟩ = some u := by
      intro c u hc hu
      have h1 : (cur.toList.take (l.length * 2))[j * 2 + c]? = some u := by rw [ht, flatR_get l j hj c hc]; exact hu
      rw [List.getElem?_take] at h1
      split at h1
      · simp [World.cell?, hg] at h1 ⊢
        simpa using h1
      · cases h1
    exact ⟨key 0 _ (by omega) rfl, key 1 _ (by omega) rfl⟩

/-! what ranges come to -/
def inR (r : Rg) (t : Int) : Bool := decide (r.low ≤ t) && decide (t ≤ r.high)
def cntR (l : List Rg) (t : Int) : Nat := l.countP fun r => inR r t
theorem cntR_take (l : List Rg) (t : Int) (k : Nat) (h : k < l.length) : cntR (l.take (k + 1)) t = cntR (l.take k) t + if inR l[k] t then 1 else 0 := by
  unfold cntR
  rw [List.take_succ_eq_append_getElem h, List.countP_append]
  simp only [List.countP_cons, List.countP_nil, Nat.zero_add]
theorem cntR_le (l : List Rg) (t : Int) : cntR l t ≤ l.length := List.countP_le_length
/-- where counts may change -/
def rawR (r : Rg) : List Int := if r.high < r.low then [] else if r.high < maxI then [r.low, r.high + 1] else [r.low]
def rawS (l : List Rg) : List Int := l.flatMap rawR
theorem rawS_take (l : List Rg) (k : Nat) (h : k < l.length) : rawS (l.take (k + 1)) = rawS (l.take k) ++ rawR l[k] := by
  unfold rawS
  rw [List.take_succ_eq_append_getElem h, List.flatMap_append]
  simp
theorem rawS_len (l : List Rg) : (rawS l).length ≤ 2 * l.length := by
  induction l with
  | nil => simp [rawS]
  | cons x l ih =>
    unfold rawS at ih ⊢
    rw [List.flatMap_cons, List.length_append]
    have : (rawR x).length ≤ 2 := by unfold rawR; split <;> (try split) <;> simp
    rw [List.length_cons]; omega
def startsR (l : List Rg) : List Int := Lib.compact (sortI (rawS l))
/-- the runs between starts -/
def runR (s : List Int) (i : Nat) : Rg := ⟨s.getD i 0, if i + 1 < s.length then s.getD (i + 1) 0 - 1 else maxI⟩
def runsR (s : List Int) : List Rg := (List.range s.length).map (runR s)
/-- the first run of times that most have -/
def bestStep (l : List Rg) (a : Rg × Nat) (r : Rg) : Rg × Nat :=
  if a.2 < cntR l r.low then (r, cntR l r.low)
  else if cntR l r.low = a.2 ∧ 0 < a.2 ∧ a.1.high < maxI ∧ r.low = a.1.high + 1 then (⟨a.1.low, r.high⟩, a.2) else a
def bestR (l : List Rg) : Rg × Nat := (runsR (startsR l)).foldl (bestStep l) (⟨0, 0⟩, 0)
/-- the runs that n or more have -/
def manyR (l : List Rg) (n : Int) : List Rg := (runsR (startsR l)).filter fun r => decide (1 ≤ n) && decide (n ≤ (cntR l r.low : Int))
def mostR (l : List Rg) (n : Int) : Rg × Bool := match manyR l n with
  | [] => (⟨0, 0⟩, false)
  | x :: t => (⟨x.low, ((x :: t).getLast (by simp)).high⟩, true)
end Go.Proofs.Ytimffflhfaiakaa
