/- Logs that are whole; what is put behind the same front; plain. -/
import Derived.Test.YtacchkmdheglaaaPutP
namespace Go.Proofs.Ytacchkmdheglaaa
open Go.RowKit
set_option linter.unusedVariables false

/-- each entry may stand behind those before it -/
def good (W : List Ent) : Prop := ∀ k (h : k < W.length), okAdd (W.take k) W[k] = true
theorem good_nil : good [] := fun k h => by simp at h
theorem good_add {l : List Ent} (h : good l) (e : Ent) : good (addE l e) := by
  unfold addE
  cases hk : okAdd l e
  · simpa using h
  · simp only [if_true]
    intro k hlt
    simp at hlt
    by_cases hl : k < l.length
    · rw [List.take_append_of_le_length (by omega), List.getElem_append_left hl]
      exact h k hl
    · obtain rfl : k = l.length := by omega
      simpa using hk
theorem good_fold (es : List Ent) : ∀ l, good l → good (es.foldl addE l) := by
  induction es with
  | nil => exact fun l h => h
  | cons e es ih => exact fun l h => ih _ (good_add h e)
theorem good_logE (es : List Ent) : good (logE es) := good_fold es [] good_nil
theorem good_take {W : List Ent} (h : good W) (n : Nat) : good (W.take n) := fun k hk => by
  simp at hk
  rw [List.take_take, List.getElem_take, show min k n = k by omega]
  exact h k (by omega)
theorem logE_take {W : List Ent} (h : good W) : ∀ n, n ≤ W.length → logE (W.take n) = W.take n
  | 0, _ => rfl
  | n + 1, hn => by
    rw [logE_snoc W n (by omega), logE_take h n (by omega), addE, if_pos (h n (by omega)), List.take_succ_eq_append_getElem]
theorem logE_good {W : List Ent} (h : good W) : logE W = W := by
  have := logE_take h W.length (Nat.le_refl _)
  simpa using this

theorem putTo_back {W : List Ent} (h : good W) {n K : Nat} (hK : K ≤ n) (hn : n ≤ W.length) : ∀ i, i ≤ W.length - K → putTo (W.take n) K (W.drop K) i = some (W.take (max n (K + i)))
  | 0, _ => by rw [putTo, show max n (K + 0) = n by omega]
  | i + 1, hi => by
    rw [putTo, putTo_back h hK hn i (by omega)]
    have hl : (W.take n).length = n := by simp; omega
    have e1 : (W.drop K).getD i entZ = W[K + i]'(by omega) := by rw [getD_lt (by simp; omega)]; simp
    simp only [hl, e1]
    by_cases hlt : i < n - K
    · have e2 : (W.take n).getD (K + i) entZ = W[K + i]'(by omega) := by rw [getD_lt (by omega)]; simp
      rw [if_pos hlt, e2, eqE_refl, if_pos rfl, show max n (K + i) = n by omega, show max n (K + (i + 1)) = n by omega]
    · rw [if_neg hlt, show max n (K + i) = K + i by omega, show max n (K + (i + 1)) = K + i + 1 by omega, if_pos (h _ (by omega)), List.take_succ_eq_append_getElem]
theorem put_whole {W : List Ent} (h : good W) {n K : Nat} (hK : K ≤ n) (hn : n ≤ W.length) : putTo (W.take n) K (W.drop K) (W.drop K).length = some W := by
  rw [putTo_back h hK hn _ (by simp), show max n (K + (W.drop K).length) = W.length by simp; omega, List.take_length]
end Go.Proofs.Ytacchkmdheglaaa
