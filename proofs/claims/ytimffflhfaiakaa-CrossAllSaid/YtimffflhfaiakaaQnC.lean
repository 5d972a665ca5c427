/- Contract: does the quorum's first try hold? (it does) -/
import Derived.Test.YtimffflhfaiakaaQnB
namespace Go.Proofs.Ytimffflhfaiakaa
open Go.RowKit
set_option linter.unusedVariables false

theorem rdI_two (w : World) (a b : Int) (E : TypeId) (n : Nat) (hn : n = w.heap.size) : rdI (w.alloc (.cells #[.int .i64 a, .int .i64 b] E)) (.slice (some ⟨n, 0, none⟩) 2 2) [a, b] := by
  subst hn
  refine ⟨_, _, rfl, by simp, by unfold maxLen; omega, fun _ => ⟨w.heap.size, 0, rfl, fun j hj => ?_⟩⟩
  match j, hj with
  | 0, _ => simp
  | 1, _ => simp
theorem rdI_one (w : World) (a : Int) (E : TypeId) (n : Nat) (hn : n = w.heap.size) : rdI (w.alloc (.cells #[.int .i64 a] E)) (.slice (some ⟨n, 0, none⟩) 1 1) [a] := by
  subst hn
  refine ⟨_, _, rfl, by simp, by unfold maxLen; omega, fun _ => ⟨w.heap.size, 0, rfl, fun j hj => ?_⟩⟩
  match j, hj with
  | 0, _ => simp

theorem m21a : medS [0, 5, 0, 0, 0, 0, 0, 0] (Int.toNat 3) = 0 := by simp [medS, sortI, List.mergeSort]
theorem m21b : medS [0, 5, 4, 0, 0, 0, 0, 0] (Int.toNat 3) = 4 := by simp [medS, sortI, List.mergeSort]
theorem m21c : medS [0, 1, 1, 0, 0, 0, 0, 0] (Int.toNat 3) = 1 := by simp [medS, sortI, List.mergeSort]

set_option maxRecDepth 100000 in
set_option maxHeartbeats 8000000 in
theorem b21_any (w : World) : Calls Try.prog 23 #[] w fun r w' => r = .returned (.bool true) ∧ Below w.heap.size w w' := by
  have f1 : ((List.foldl withT 0 [1, 2] : Nat) : Int) = 3 := by decide
  have f2 : ((List.foldl withT 0 [1] : Nat) : Int) = 1 := by decide
  replace f1 := Lib.hid f1
  replace f2 := Lib.hid f2
  go_enter Try.func23, Try.ntmps23
  go_wp2_with fail
  refine (of_any _ [1, 2] _ (rdI_two _ _ _ _ _ rfl)).mono ?_
  rintro r w1 ⟨rfl, rfl⟩
  rw [f1.out]
  have hb0 : Below w.heap.size w (w.alloc (.cells #[.int .i64 1, .int .i64 2] 3)) := (Below.refl _ _).alloc (Nat.le_refl _) _
  replace hb0 := Lib.hid hb0
  go_wp2_with fail
  refine (qNew_ok 3 3 1 _ (by kernel_rfl) (by kernel_rfl)).mono ?_
  rintro r w1 ⟨rfl, hq1, hb1⟩
  have hB1 := Lib.hid (hb0.out.trans (hb1.mono hb0.out.size))
  obtain ⟨b, hb⟩ : ∃ b, b = (w.alloc (.cells #[.int .i64 1, .int .i64 2] 3)).heap.size := ⟨_, rfl⟩
  rw [← hb] at hq1 ⊢
  have hwb : w.heap.size ≤ b := by rw [hb]; simp
  replace hb := Lib.hid hb
  replace hq1 := Lib.hid hq1
  clear hb1 hb0
  go_wp2_with fail
  refine (of_any _ [1] _ (rdI_one _ _ _ _ rfl)).mono ?_
  rintro r w2 ⟨rfl, rfl⟩
  rw [f2.out]
  have hb2 := (Below.refl w1.heap.size w1).alloc (Nat.le_refl _) (.cells #[.int .i64 1] 3)
  have hq2 := Lib.hid (hq1.out.below hb2)
  have hB2 := Lib.hid (hB1.out.trans (hb2.mono hB1.out.size))
  clear hb2 hq1 hB1
  go_wp2_with fail
  refine (qNew_no 3 1 1 _ (by kernel_rfl)).mono ?_
  rintro r w3 ⟨rfl, rfl⟩
  generalize World.alloc w1 _ = w3 at hq2 hB2 ⊢
  go_wp2_with fail
  refine (of_any _ [1, 2] _ (rdI_two _ _ _ _ _ rfl)).mono ?_
  rintro r w4 ⟨rfl, rfl⟩
  rw [f1.out]
  have hb4 := (Below.refl w3.heap.size w3).alloc (Nat.le_refl _) (.cells #[.int .i64 1, .int .i64 2] 3)
  have hq4 := Lib.hid (hq2.out.below hb4)
  have hB4 := Lib.hid (hB2.out.trans (hb4.mono hB2.out.size))
  clear hb4 hq2 hB2
  go_wp2_with fail
  refine (qNew_no2 3 3 3 _ (by kernel_rfl) (by kernel_rfl)).mono ?_
  rintro r w5 ⟨rfl, rfl⟩
  generalize World.alloc w3 _ = w5 at hq4 hB4 ⊢
  go_wp2_with fail
  refine (qAck_yes b 3 3 1 z8 z8 0 1 5 0 _ hq4.out (by omega) (by kernel_rfl) (by omega) (by omega) (by omega) (by omega)).mono ?_
  rintro r w6 ⟨rfl, hq6, hc6⟩
  rw [show z8.set 1 (max (z8.getD 1 0) 5) = [0, 5, 0, 0, 0, 0, 0, 0] from rfl, show ackP z8 1 0 0 = z8 from rfl] at hq6
  have hB6 := Lib.hid (hB4.out.trans (hc6.below hB4.out.size fun k hk => by have : k = b := hk; omega))
  replace hq6 := Lib.hid hq6
  clear hc6 hq4 hB4
  go_wp2_with fail
  refine (qCommit_any b 3 3 1 _ _ 0 _ hq6.out (by omega) (by omega)).mono ?_
  rintro r w7 ⟨rfl, hb7⟩
  rw [m21a]
  have hq7 := Lib.hid (hq6.out.below hb7)
  have hB7 := Lib.hid (hB6.out.trans (hb7.mono hB6.out.size))
  clear hb7 hq6 hB6
  go_wp2_with fail
  refine (qNext_any b 3 3 1 _ _ 0 1 _ hq7.out rfl (by omega) (by omega) (by omega)).mono ?_
  rintro r w8 ⟨rfl, hq8, hc8⟩
  rw [show z8.set 1 (0 + 1) = [0, 1, 0, 0, 0, 0, 0, 0] from rfl, show (0 : Int) + 1 = 1 from rfl] at hq8
  rw [show (0 : Int) + 1 = 1 from rfl]
  have hB8 := Lib.hid (hB7.out.trans (hc8.below hB7.out.size fun k hk => by have : k = b := hk; omega))
  replace hq8 := Lib.hid hq8
  clear hc8 hq7 hB7
  go_wp2_with fail
  refine (qAck_yes b 3 3 1 _ _ 1 2 4 1 _ hq8.out (by omega) (by kernel_rfl) (by omega) (by omega) (by omega) (by omega)).mono ?_
  rintro r w9 ⟨rfl, hq9, hc9⟩
  rw [show ([0, 5, 0, 0, 0, 0, 0, 0] : List Int).set 2 (max (([0, 5, 0, 0, 0, 0, 0, 0] : List Int).getD 2 0) 4) = [0, 5, 4, 0, 0, 0, 0, 0] from rfl, show ackP [0, 1, 0, 0, 0, 0, 0, 0] 2 1 1 = [0, 1, 1, 0, 0, 0, 0, 0] from rfl] at hq9
  have hB9 := Lib.hid (hB8.out.trans (hc9.below hB8.out.size fun k hk => by have : k = b := hk; omega))
  replace hq9 := Lib.hid hq9
  clear hc9 hq8 hB8
  go_wp2_with fail
  refine (qCommit_any b 3 3 1 _ _ 1 _ hq9.out (by omega) (by omega)).mono ?_
  rintro r wa ⟨rfl, hba⟩
  rw [m21b]
  have hqa := Lib.hid (hq9.out.below hba)
  have hBa := Lib.hid (hB9.out.trans (hba.mono hB9.out.size))
  clear hba hq9 hB9
  go_wp2_with fail
  refine (qProbe_any b 3 3 1 _ _ 1 _ hqa.out (by omega) (by omega)).mono ?_
  rintro r wb ⟨rfl, hbb⟩
  rw [m21c]
  have hqb := Lib.hid (hqa.out.below hbb)
  have hBb := Lib.hid (hBa.out.trans (hbb.mono hBa.out.size))
  clear hbb hqa hBa
  go_wp2_with fail
  refine (qHave_yes b 3 3 1 _ _ 1 2 _ hqb.out (by omega) (by kernel_rfl) (by omega)).mono ?_
  rintro r wc ⟨rfl, rfl⟩
  rw [show ([0, 5, 4, 0, 0, 0, 0, 0] : List Int).getD 2 0 = 4 from rfl]
  go_wp2_with fail
  refine (qLast_any b 3 3 1 _ _ 1 _ hqb.out).mono ?_
  rintro r wc ⟨rfl, rfl⟩
  go_wp2_with fail
  refine (qAck_no b 3 3 1 _ _ 1 3 1 0 _ hqb.out (by omega) (by kernel_rfl)).mono ?_
  rintro r wc ⟨rfl, rfl⟩
  go_wp2
  go_ret
  exact ⟨rfl, hBb.out⟩
end Go.Proofs.Ytimffflhfaiakaa
