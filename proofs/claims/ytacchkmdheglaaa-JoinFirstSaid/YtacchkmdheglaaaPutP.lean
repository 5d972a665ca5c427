/- What is put at a place; plain. -/
import Derived.Test.YtacchkmdheglaaaLogB
import Derived.Test.YtacchkmdheglaaaRefA
namespace Go.Proofs.Ytacchkmdheglaaa
open Go.RowKit

/-- the first i of es put into l behind K -/
def putTo (l : List Ent) (K : Nat) (es : List Ent) : Nat → Option (List Ent)
  | 0 => some l
  | i + 1 => match putTo l K es i with
    | none => none
    | some m => if i < l.length - K then (if eqE (l.getD (K + i) entZ) (es.getD i entZ) then some m else none) else (if okAdd m (es.getD i entZ) then some (m ++ [es.getD i entZ]) else none)
def putE (l : List Ent) (k : Int) (es : List Ent) : Option (List Ent) := if k < 0 ∨ (l.length : Int) < k then none else putTo l k.toNat es es.length

theorem putTo_none {l : List Ent} {K : Nat} {es : List Ent} {i j : Nat} (h : putTo l K es i = none) (hij : i ≤ j) : putTo l K es j = none := by
  induction j with
  | zero => have : i = 0 := by omega
            subst this; exact h
  | succ j ih =>
    by_cases e : i = j + 1
    · rw [← e]; exact h
    · rw [putTo, ih (by omega)]
theorem putTo_front {l : List Ent} {K : Nat} {es : List Ent} {i : Nat} (hi : i ≤ l.length - K) (hi2 : i ≤ es.length) :
    putTo l K es i = if eqAll ((l.drop K).take i) (es.take i) then some l else none := by
  induction i with
  | zero => simp [putTo, eqAll]
  | succ i ih =>
    rw [putTo, ih (by omega) (by omega), eqAll_take i (by simp; omega) (by omega)]
    have e1 : l.getD (K + i) entZ = (l.drop K)[i]'(by simp; omega) := by
      rw [List.getElem_drop, List.getD_eq_getElem?_getD, List.getElem?_eq_getElem (by omega)]; rfl
    have e2 : es.getD i entZ = es[i]'(by omega) := by
      rw [List.getD_eq_getElem?_getD, List.getElem?_eq_getElem (by omega)]; rfl
    rw [e1, e2]
    cases eqAll ((l.drop K).take i) (es.take i)
    · simp
    · simp only [if_true, if_pos (show i < l.length - K by omega), Bool.true_and]
theorem putTo_len {l : List Ent} {K : Nat} {es : List Ent} {i : Nat} {m : List Ent} (hl : l.length ≤ 60) (h : putTo l K es i = some m) : m.length ≤ 60 := by
  induction i generalizing m with
  | zero => injection h with h; rw [← h]; exact hl
  | succ i ih =>
    rw [putTo] at h
    cases hp : putTo l K es i with
    | none => rw [hp] at h; cases h
    | some x =>
      rw [hp] at h
      have := ih hp
      simp only at h
      split at h
      · split at h
        · injection h with h; rw [← h]; exact this
        · cases h
      · split at h
        · next ho => injection h with h; rw [← h]; simp [okAdd] at ho; simp; omega
        · cases h
theorem putE_len {l : List Ent} {k : Int} {es m : List Ent} (hl : l.length ≤ 60) (h : putE l k es = some m) : m.length ≤ 60 := by
  unfold putE at h; split at h
  · cases h
  · exact putTo_len hl h

theorem ownE_base {w : World} {B B' : Nat} {E : TypeId} {v : Value} {l : List Ent} (h : ownE w B E v l) (hB : B' ≤ B) : ownE w B' E v l := by
  obtain ⟨h1, h2⟩ := h
  refine ⟨h1, h2.imp id ?_⟩
  rintro ⟨g, cap, cur, e1, e2, r⟩
  exact ⟨g, cap, cur, e1, by omega, r⟩
/-- a row keeps its place or is new -/
theorem getD_lt {l : List Ent} {i : Nat} (h : i < l.length) : l.getD i entZ = l[i] := by
  rw [List.getD_eq_getElem?_getD, List.getElem?_eq_getElem h]; rfl
end Go.Proofs.Ytacchkmdheglaaa
