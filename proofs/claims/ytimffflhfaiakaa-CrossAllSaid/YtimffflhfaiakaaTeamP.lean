/- The plain law of teams: no program in sight. -/
import Derived.Test.YtimffflhfaiakaaBase
import Derived.WalkKit
namespace Go.Proofs.Ytimffflhfaiakaa
open Go.RowKit


def isB (id : Int) : Bool := decide (1 ≤ id) && decide (id ≤ 7)
def hasT (T : Nat) (id : Int) : Bool := isB id && T.testBit (id.toNat - 1)
def withT (T : Nat) (id : Int) : Nat := if isB id then T ||| 2 ^ (id.toNat - 1) else T
def woutT (T : Nat) (id : Int) : Nat := if isB id then T &&& (18446744073709551615 - 2 ^ (id.toNat - 1)) else T
def lenT (T : Nat) : Nat := ((List.range 7).filter fun i => T.testBit i).length
def mayT (t n : Int) : Bool := decide (3 ≤ n) && decide (n ≤ 7) && decide (0 ≤ t) && decide (t < 2 ^ n.toNat)
def mostT (t n : Int) : Bool := mayT t n && decide (n < 2 * (lenT t.toNat : Int))
def decT (view n : Int) : Int := if view < 1 ∨ n < 3 ∨ 7 < n then 0 else 1 + (view - 1) % n

theorem isB_yes {id : Int} (h1 : 1 ≤ id) (h7 : id ≤ 7) : isB id = true := by simp [isB, h1, h7]
theorem isB_no {id : Int} (h : ¬ (1 ≤ id ∧ id ≤ 7)) : isB id = false := by simp [isB]; omega
theorem isB_iff {id : Int} : isB id = true ↔ 1 ≤ id ∧ id ≤ 7 := by simp [isB]
theorem ids {id : Int} (h1 : 1 ≤ id) (h7 : id ≤ 7) : id = 1 ∨ id = 2 ∨ id = 3 ∨ id = 4 ∨ id = 5 ∨ id = 6 ∨ id = 7 := by omega

theorem pow_small {id : Int} (h1 : 1 ≤ id) (h7 : id ≤ 7) : wrap64 (2 ^ (id.toNat - 1)) = (((2 ^ (id.toNat - 1) : Nat)) : Int) := by
  obtain rfl | rfl | rfl | rfl | rfl | rfl | rfl := ids h1 h7
  all_goals decide +kernel
theorem pow_lt {id : Int} (h1 : 1 ≤ id) (h7 : id ≤ 7) : 2 ^ (id.toNat - 1) < 128 := by
  obtain rfl | rfl | rfl | rfl | rfl | rfl | rfl := ids h1 h7
  all_goals decide +kernel

theorem ns {n : Int} (h3 : 3 ≤ n) (h7 : n ≤ 7) : n = 3 ∨ n = 4 ∨ n = 5 ∨ n = 6 ∨ n = 7 := by omega
theorem pow_n {n : Int} (h3 : 3 ≤ n) (h7 : n ≤ 7) : wrap64 (2 ^ n.toNat) = 2 ^ n.toNat := by
  obtain rfl | rfl | rfl | rfl | rfl := ns h3 h7
  all_goals decide +kernel
theorem pow_n_le {n : Int} (h3 : 3 ≤ n) (h7 : n ≤ 7) : (2 : Int) ^ n.toNat ≤ 128 := by
  obtain rfl | rfl | rfl | rfl | rfl := ns h3 h7
  all_goals decide +kernel
theorem mayT_iff {t n : Int} : mayT t n = true ↔ 3 ≤ n ∧ n ≤ 7 ∧ 0 ≤ t ∧ t < 2 ^ n.toNat := by simp [mayT, and_assoc]
theorem mayT_lt {t n : Int} (h : mayT t n = true) : 0 ≤ t ∧ t < 128 := by
  obtain ⟨h3, h7, h0, h⟩ := mayT_iff.1 h; have := pow_n_le h3 h7; omega

theorem ofInt64 (a : Nat) (ha : a < 18446744073709551616) : (BitVec.ofInt 64 (a : Int)).toNat = a := by
  rw [BitVec.ofInt_natCast, BitVec.toNat_ofNat]; exact Nat.mod_eq_of_lt (by omega)
theorem and_nat (a b : Nat) (ha : a < 128) (hb : b < 128) : bits .and .i64 (a : Int) (b : Int) = ((a &&& b : Nat) : Int) := by
  have hx : a &&& b < 2 ^ 7 := Nat.and_lt_two_pow _ (by omega)
  show IntKind.i64.wrap ((BitVec.ofInt 64 (a : Int) &&& BitVec.ofInt 64 (b : Int)).toNat : Int) = _
  rw [BitVec.toNat_and, ofInt64 a (by omega), ofInt64 b (by omega), IntKind.wrap_i64]
  omega
theorem or_nat (a b : Nat) (ha : a < 128) (hb : b < 128) : bits .or .i64 (a : Int) (b : Int) = ((a ||| b : Nat) : Int) := by
  have hx : a ||| b < 2 ^ 7 := Nat.or_lt_two_pow (by omega) (by omega)
  show IntKind.i64.wrap ((BitVec.ofInt 64 (a : Int) ||| BitVec.ofInt 64 (b : Int)).toNat : Int) = _
  rw [BitVec.toNat_or, ofInt64 a (by omega), ofInt64 b (by omega), IntKind.wrap_i64]
  omega
theorem andNot_nat (a b : Nat) (ha : a < 128) (hb : b < 128) : bits .andNot .i64 (a : Int) (b : Int) = ((a &&& (18446744073709551615 - b) : Nat) : Int) := by
  have hx : a &&& (18446744073709551615 - b) ≤ a := Nat.and_le_left
  show IntKind.i64.wrap ((BitVec.ofInt 64 (a : Int) &&& ~~~BitVec.ofInt 64 (b : Int)).toNat : Int) = _
  rw [BitVec.toNat_and, BitVec.toNat_not, ofInt64 a (by omega), ofInt64 b (by omega), IntKind.wrap_i64]
  have e : 2 ^ 64 - 1 - b = 18446744073709551615 - b := by omega
  rw [e]
  omega
theorem and_i64_127 (t : Int) : bits .and .i64 t 127 = t % 128 := by
  show IntKind.i64.wrap ((BitVec.ofInt 64 t &&& BitVec.ofInt 64 127).toNat : Int) = _
  rw [BitVec.toNat_and, BitVec.toNat_ofInt, BitVec.toNat_ofInt, IntKind.wrap_i64]
  have e : (127 % ((2 ^ 64 : Nat) : Int)).toNat = 2 ^ 7 - 1 := by decide
  rw [e, Nat.and_two_pow_sub_one_eq_mod]
  omega

theorem and_has (T : Nat) {id : Int} (h1 : 1 ≤ id) (h7 : id ≤ 7) (hT : T < 128) : (((T &&& 2 ^ (id.toNat - 1) : Nat) : Int) != 0) = hasT T id := by
  have hn : ∀ T < 128, ∀ k < 7, ((((T &&& 2 ^ k : Nat) : Int) != 0) = T.testBit k) := by decide +kernel
  rw [hasT, isB_yes h1 h7, hn T hT _ (by omega)]; simp
theorem withT_lt {T : Nat} (id : Int) (hT : T < 128) : withT T id < 128 := by
  unfold withT; split
  · next h => obtain ⟨h1, h7⟩ := isB_iff.1 h; exact Nat.or_lt_two_pow (n := 7) hT (pow_lt h1 h7)
  · exact hT
theorem woutT_lt {T : Nat} (id : Int) (hT : T < 128) : woutT T id < 128 := by
  unfold woutT; split
  · exact Nat.lt_of_le_of_lt Nat.and_le_left hT
  · exact hT
theorem foldl_snoc (l : List Int) (k : Nat) (h : k < l.length) : (l.take (k + 1)).foldl withT 0 = withT ((l.take k).foldl withT 0) l[k] := by
  rw [List.take_succ_eq_append_getElem h, List.foldl_append]; rfl
/-- those of a team, rising: the first k numbers -/
def listTo (T : Nat) : Nat → List Int
  | 0 => []
  | k + 1 => if hasT T (k + 1 : Nat) then listTo T k ++ [((k + 1 : Nat) : Int)] else listTo T k
def listT (T : Nat) : List Int := listTo T 7
theorem listTo_len (T k : Nat) : (listTo T k).length ≤ k := by
  induction k with
  | zero => simp [listTo]
  | succ k ih =>
    rw [listTo]; split
    · rw [List.length_append]; simp; exact ih
    · omega
theorem listTo_yes {T k : Nat} (h : hasT T (k + 1 : Nat) = true) : listTo T (k + 1) = listTo T k ++ [((k + 1 : Nat) : Int)] := by rw [listTo, if_pos h]
theorem listTo_no {T k : Nat} (h : hasT T (k + 1 : Nat) = false) : listTo T (k + 1) = listTo T k := by rw [listTo, if_neg (by rw [h]; exact Bool.false_ne_true)]
theorem lenT_le (T : Nat) : lenT T ≤ 7 := by
  have := List.length_filter_le (fun i => T.testBit i) (List.range 7); simpa [lenT] using this

end Go.Proofs.Ytimffflhfaiakaa
