/- Contracts: May, in, Cut. -/
import Derived.Test.YtbmldiklgkojnaaEntA
namespace Go.Proofs.Ytbmldiklgkojnaa
open Go.RowKit
set_option linter.unusedVariables false

set_option maxRecDepth 100000 in
set_option maxHeartbeats 400000 in
theorem in_any (lo hi : Int) (v : Value) (l : List Int) (w : World) (hr : rdI w v l) :
    Calls Try.prog 29 #[.int .i64 lo, .int .i64 hi, v] w fun e w' => e = .returned (.bool (inB lo hi l)) ∧ w = w' := by
  obtain ⟨a, cap, rfl, hm, hM, ha⟩ := hr
  unfold maxLen at hM
  go_enter Try.func29, Try.ntmps29
  go_wp2
  go_loop [11] (fun i => ∃ k : Nat, k ≤ l.length ∧ i = .int .i64 k ∧ inB lo hi (l.take k) = true) (fun i => l.length - (intOf i).toNat)
  case atStart => exact ⟨0, Nat.zero_le _, rfl, rfl⟩
  case round =>
    obtain ⟨k, hk, rfl, hI⟩ := hrel
    replace hI := Lib.hid hI
    by_cases hlt : k < l.length
    · obtain ⟨b, off, rfl, hc⟩ := ha (by omega)
      have hck := hc k hlt
      have hs := inB_take lo hi l k hlt
      rw [hI.out, Bool.true_and] at hs
      clear hc ha
      generalize l[k] = x at hck hs
      replace hs := Lib.hid hs
      by_cases h1 : lo ≤ x
      · by_cases h2 : x ≤ hi
        · go_wp2
          go_round
          case rel => exact ⟨k + 1, by omega, by go_num, by rw [hs.out]; simp [h1, h2]⟩
          case measure => simp [intOf]; omega
        · go_wp2
          go_ret
          exact ⟨ret_bool (by rw [inB_false lo hi l (k + 1) (by rw [hs.out]; simp; omega)]), rfl⟩
      · go_wp2
        go_ret
        exact ⟨ret_bool (by rw [inB_false lo hi l (k + 1) (by rw [hs.out]; simp; omega)]), rfl⟩
    · obtain rfl : k = l.length := by omega
      rw [List.take_length] at hI
      go_wp2
      go_ret
      exact ⟨ret_bool hI.out.symm, rfl⟩

theorem rdI_one {n : Nat} (w : World) (a : Int) (E : TypeId) (hn : n = w.heap.size) : rdI (w.alloc (.cells #[.int .i64 a] E)) (.slice (some ⟨n, 0, none⟩) 1 1) [a] := by
  subst hn
  exact ⟨_, _, rfl, by simp, by decide, fun _ => ⟨w.heap.size, 0, rfl, fun j hj => by match j, hj with | 0, _ => simp⟩⟩
theorem rdI_two {n : Nat} (w : World) (a b : Int) (E : TypeId) (hn : n = w.heap.size) : rdI (w.alloc (.cells #[.int .i64 a, .int .i64 b] E)) (.slice (some ⟨n, 0, none⟩) 2 2) [a, b] := by
  subst hn
  exact ⟨_, _, rfl, by simp, by decide, fun _ => ⟨w.heap.size, 0, rfl, fun j hj => by match j, hj with | 0, _ => simp | 1, _ => simp⟩⟩

set_option maxRecDepth 100000 in
set_option maxHeartbeats 1000000 in
theorem emay_any (e : Ent) (w : World) :
    Calls Try.prog 20 #[e.val] w fun x w' => x = .returned (.bool (mayE e)) ∧ Below w.heap.size w w' := by
  rw [mayE_in]
  obtain ⟨a1, a2, a3, a4, a5, a6, a7⟩ := e
  simp only [Ent.val]
  go_enter Try.func20, Try.ntmps20
  go_wp2_with fail
  refine (in_any _ _ _ [a1] _ (rdI_one _ _ _ (by simp))).mono ?_
  rintro e w1 ⟨rfl, rfl⟩
  cases h1 : inB 1 7 [a1]
  · go_wp2
    go_ret
    exact ⟨ret_bool (by simp [h1]), by go_grown⟩
  · go_wp2_with fail
    refine (in_any _ _ _ [a2, a3] _ (rdI_two _ _ _ _ (by simp))).mono ?_
    rintro e w1 ⟨rfl, rfl⟩
    cases h2 : inB 1 1099511627776 [a2, a3]
    · go_wp2
      go_ret
      exact ⟨ret_bool (by simp [h2]), by go_grown⟩
    · go_wp2_with fail
      refine (in_any _ _ _ [a4, a5] _ (rdI_two _ _ _ _ (by simp))).mono ?_
      rintro e w1 ⟨rfl, rfl⟩
      cases h3 : inB 0 2 [a4, a5]
      · go_wp2
        go_ret
        exact ⟨ret_bool (by simp [h3]), by go_grown⟩
      · go_wp2_with fail
        refine (in_any _ _ _ [a6] _ (rdI_one _ _ _ (by simp))).mono ?_
        rintro e w1 ⟨rfl, rfl⟩
        cases h4 : inB 0 1099511627776 [a6]
        · go_wp2
          go_ret
          exact ⟨ret_bool (by simp [h4]), by go_grown⟩
        · go_wp2
          go_ret
          exact ⟨ret_bool (by simp [h1, h2, h3, h4]), by go_grown⟩

set_option maxRecDepth 100000 in
set_option maxHeartbeats 400000 in
theorem cut1_any (s : ByteArray) (w : World) (hs : s.size ≤ 9223372036854775807) :
    Calls Try.prog 10 #[.string s, .int .i64 20] w fun x w' => x = .returned (.string (cutS s 20)) ∧ w = w' := by
  by_cases h : 20 < s.size
  · go_enter Try.func10, Try.ntmps10
    go_wp2
    go_ret
    refine ⟨?_, rfl⟩
    rw [cutS, if_pos h]; rfl
  · go_enter Try.func10, Try.ntmps10
    go_wp2
    go_ret
    refine ⟨?_, rfl⟩
    rw [cutS, if_neg h]; rfl

end Go.Proofs.Ytbmldiklgkojnaa
