/- Lists of entries, what they are; plain. -/
import Derived.Test.YtacchkmdheglaaaEntP
namespace Go.Proofs.Ytacchkmdheglaaa
open Go.RowKit

def hasE (l : List Ent) (e : Ent) : Bool := l.any fun x => sameE x e
theorem hasE_take (l : List Ent) (e : Ent) (k : Nat) (h : k < l.length) : hasE (l.take (k + 1)) e = (hasE (l.take k) e || sameE l[k] e) := by
  unfold hasE; rw [List.take_succ_eq_append_getElem h, List.any_append]; simp
theorem hasE_true (l : List Ent) (e : Ent) (k : Nat) (h : hasE (l.take k) e = true) : hasE l e = true := by
  unfold hasE at h ⊢
  rw [← List.take_append_drop k l, List.any_append, h, Bool.true_or]

/-- two lists are the same -/
def eqAll : List Ent → List Ent → Bool
  | [], [] => true
  | a :: l, b :: m => eqE a b && eqAll l m
  | _, _ => false
theorem eqAll_len {l m : List Ent} (h : eqAll l m = true) : l.length = m.length := by
  induction l generalizing m with
  | nil => cases m with | nil => rfl | cons => simp [eqAll] at h
  | cons a l ih => cases m with
    | nil => simp [eqAll] at h
    | cons b m => simp [eqAll] at h; simp [ih h.2]
theorem eqAll_ne {l m : List Ent} (h : l.length ≠ m.length) : eqAll l m = false := by
  cases e : eqAll l m with
  | false => rfl
  | true => exact absurd (eqAll_len e) h
theorem eqAll_take {l m : List Ent} (k : Nat) (h : k < l.length) (h' : k < m.length) : eqAll (l.take (k + 1)) (m.take (k + 1)) = (eqAll (l.take k) (m.take k) && eqE l[k] m[k]) := by
  induction k generalizing l m with
  | zero =>
    cases l with
    | nil => simp at h
    | cons a l => cases m with
      | nil => simp at h'
      | cons b m => simp [eqAll]
  | succ k ih =>
    cases l with
    | nil => simp at h
    | cons a l => cases m with
      | nil => simp at h'
      | cons b m =>
        simp only [List.take_succ_cons, eqAll, List.getElem_cons_succ]
        rw [ih (by simpa using h) (by simpa using h'), Bool.and_assoc]
theorem eqAll_false {l m : List Ent} (k : Nat) (h : k ≤ l.length) (h' : k ≤ m.length) (hf : eqAll (l.take k) (m.take k) = false) : eqAll l m = false := by
  induction k generalizing l m with
  | zero => simp [eqAll] at hf
  | succ k ih =>
    cases l with
    | nil => simp at h
    | cons a l => cases m with
      | nil => simp at h'
      | cons b m =>
        simp only [List.take_succ_cons, eqAll, Bool.and_eq_false_iff] at hf ⊢
        exact hf.imp id fun hf => ih (by simpa using h) (by simpa using h') hf
theorem eqE_refl (a : Ent) : eqE a a = true := by simp [eqE, sameE]
theorem eqAll_refl (l : List Ent) : eqAll l l = true := by
  induction l with
  | nil => rfl
  | cons a l ih => simp [eqAll, eqE_refl, ih]
theorem eqE_iff (a b : Ent) : eqE a b = true ↔ a = b := by
  constructor
  · intro h
    obtain ⟨a1, a2, a3, a4, a5, a6, ⟨⟨a7⟩⟩⟩ := a
    obtain ⟨b1, b2, b3, b4, b5, b6, ⟨⟨b7⟩⟩⟩ := b
    simp [eqE, sameE, ByteArray.toList_eq] at h
    obtain ⟨⟨⟨⟨⟨⟨rfl, rfl⟩, rfl⟩, rfl⟩, rfl⟩, rfl⟩, h7⟩ := h
    first | (subst h7; rfl) | (simp at h7; subst h7; rfl)
  · rintro rfl; exact eqE_refl a
end Go.Proofs.Ytacchkmdheglaaa
