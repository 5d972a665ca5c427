/- Contracts: May, in, Cut. -/
import Derived.Test.YtacchkmdheglaaaEntA
namespace Go.Proofs.Ytacchkmdheglaaa
open Go.RowKit
set_option linter.unusedVariables false

set_option maxRecDepth 100000 in
set_option maxHeartbeats 400000 in
theorem in_any (lo hi : Int) (v : Value) (l : List Int) (w : World) (hr : rdI w v l) :
    Calls Try.prog 64 #[.int .i64 lo, .int .i64 hi, v] w fun e w' => e = .returned (.bool (inB lo hi l)) ∧ w = w' := by
  obtain ⟨a, cap, rfl, hm, hM, ha⟩ := hr
  unfold maxLen at hM
  go_enter Try.func64, Try.ntmps64
  go_wp2
  go_loop [11] (fun i => ∃ k : Nat, k ≤ l.length ∧ i = .int .i64 k ∧ inB lo hi (l.take k) = true) (fun i => l.length - (intOf i).toNat)
  case atStart => exact ⟨0, Nat.zero_le _, rfl, rfl⟩
  case round =>
    obtain ⟨k, hk, rfl, hI⟩ := hrel
    replace hI := Lib.hid hI
    by_cases hlt : k < l.length
    · obtain ⟨b, off, rfl, hc⟩ := ha (by omega)
      have hck := hc k hlt
      have hs := inB_take lo hi l k hlt
      rw [hI.out, Bool.true_and] at hs
      clear hc ha
      generalize l[k] = x at hck hs
      replace hs := Lib.hid hs
      by_cases h1 : lo ≤ x
      · by_cases h2 : x ≤ hi
        · go_wp2
          go_round
          case rel => exact ⟨k + 1, by omega, by go_num, by rw [hs.out]; simp [h1, h2]⟩
          case measure => simp [intOf]; omega
        · go_wp2
          go_ret
          exact ⟨ret_bool (by rw [inB_false lo hi l (k + 1) (by rw [hs.out]; simp; omega)]), rfl⟩
      · go_wp2
        go_ret
        exact ⟨ret_bool (by rw [inB_false lo hi l (k + 1) (by rw [hs.out]; simp; omega)]), rfl⟩
    · obtain rfl : k = l.length := by omega
      rw [List.take_length] at hI
      go_wp2
      go_ret
      exact ⟨ret_bool hI.out.symm, rfl⟩

theorem rdI_one {n : Nat} (w : World) (a : Int) (E : TypeId) (hn : n = w.heap.size) : rdI (w.alloc (.cells #[.int .i64 a] E)) (.slice (some ⟨n, 0, none⟩) 1 1) [a] := by
  subst hn
  exact ⟨_, _, rfl, by simp, by decide, fun _ => ⟨w.heap.size, 0, rfl, fun j hj => by match j, hj with | 0, _ => simp⟩⟩
theorem rdI_two {n : Nat} (w : World) (a b : Int) (E : TypeId) (hn : n = w.heap.size) : rdI (w.alloc (.cells #[.int .i64 a, .int .i64 b] E)) (.slice (some ⟨n, 0, none⟩) 2 2) [a, b] := by
  subst hn
  exact ⟨_, _, rfl, by simp, by decide, fun _ => ⟨w.heap.size, 0, rfl, fun j hj => by match j, hj with | 0, _ => simp | 1, _ => simp⟩⟩

set_option maxRecDepth 100000 in
set_option maxHeartbeats 1000000 in
theorem emay_any (e : Ent) (w : World) :
    Calls Try.prog 60 #[e.val] w fun x w' => x = .returned (.bool (mayE e)) ∧ Below w.heap.size w w' := by
  rw [mayE_in]
  obtain ⟨a1, a2, a3, a4, a5, a6, a7⟩ := e
  simp only [Ent.val]
  go_enter Try.func60, Try.ntmps60
  go_wp2_with fail
  refine (in_any _ _ _ [a1] _ (rdI_one _ _ _ (by simp))).mono ?_
  rintro e w1 ⟨rfl, rfl⟩
  cases h1 : inB 1 7 [a1]
  · go_wp2
    go_ret
    exact ⟨ret_bool (by simp [h1]), by go_grown⟩
  · go_wp2_with fail
    refine (in_any _ _ _ [a2, a3] _ (rdI_two _ _ _ _ (by simp))).mono ?_
    rintro e w1 ⟨rfl, rfl⟩
    cases h2 : inB 1 1099511627776 [a2, a3]
    · go_wp2
      go_ret
      exact ⟨ret_bool (by simp [h2]), by go_grown⟩
    · go_wp2_with fail
      refine (in_any _ _ _ [a4, a5] _ (rdI_two _ _ _ _ (by simp))).mono ?_
      rintro e w1 ⟨rfl, rfl⟩
      cases h3 : inB 0 2 [a4, a5]
      · go_wp2
        go_ret
        exact ⟨ret_bool (by simp [h3]), by go_grown⟩
      · go_wp2_with fail
        refine (in_any _ _ _ [a6] _ (rdI_one _ _ _ (by simp))).mono ?_
        rintro e w1 ⟨rfl, rfl⟩
        cases h4 : inB 0 1099511627776 [a6]
        · go_wp2
          go_ret
          exact ⟨ret_bool (by simp [h4]), by go_grown⟩
        · go_wp2
          go_ret
          exact ⟨ret_bool (by simp [h1, h2, h3, h4]), by go_grown⟩

set_option maxRecDepth 100000 in
set_option maxHeartbeats 400000 in
theorem cut1_any (s : ByteArray) (w : World) (hs : s.size ≤ 9223372036854775807) :
    Calls Try.prog 59 #[.string s, .int .i64 20] w fun x w' => x = .returned (.string (cutS s 20)) ∧ w = w' := by
  by_cases h : 20 < s.size
  · go_enter Try.func59, Try.ntmps59
    go_wp2
    go_ret
    refine ⟨?_, rfl⟩
    rw [cutS, if_pos h]; rfl
  · go_enter Try.func59, Try.ntmps59
    go_wp2
    go_ret
    refine ⟨?_, rfl⟩
    rw [cutS, if_neg h]; rfl

set_option maxRecDepth 100000 in
set_option maxHeartbeats 400000 in
theorem cut12_any (e : Ent) (w : World) (hs : e.data.size ≤ 9223372036854775807) :
    Calls Try.prog 50 #[e.val] w fun x w' => x = .returned (cutE e).val ∧ Below w.heap.size w w' := by
  obtain ⟨a1, a2, a3, a4, a5, a6, a7⟩ := e
  simp only [Ent.val, cutE]
  go_enter Try.func50, Try.ntmps50
  go_wp2_with (go_at_call 59; refine (cut1_any _ _ hs).mono ?_; rintro e w' ⟨rfl, rfl⟩)
  exact bodyPost_ret (v := .agg #[.int .i64 a1, .int .i64 a2, .int .i64 a3, .int .i64 a4, .int .i64 a5, .int .i64 a6, .string (cutS a7 20)]) (by simp [results, Try.results50, go_sem]) rfl ⟨rfl, by go_grown⟩
end Go.Proofs.Ytacchkmdheglaaa
