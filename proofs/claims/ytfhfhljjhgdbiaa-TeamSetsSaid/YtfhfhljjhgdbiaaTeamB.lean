/- Contracts of the team's greater functions. -/
import Derived.Test.YtfhfhljjhgdbiaaTeamA
import Derived.Test.YtfhfhljjhgdbiaaBase
namespace Go.Proofs.Ytfhfhljjhgdbiaa
open Go.RowKit
set_option linter.unusedVariables false

set_option maxHeartbeats 400000 in
theorem most_any (t n : Int) (w : World) :
    Calls Try.prog 22 #[.int .i64 t, .int .i64 n] w fun e w' => e = .returned (.bool (mostT t n)) ∧ w = w' := by
  have hl := lenT_le t.toNat
  have hl2 := lenT_le (t % 128).toNat
  by_cases hm : mayT t n = true
  · have hlt := mayT_lt hm
    have e : t % 128 = t := by omega
    go_enter Try.func22, Try.ntmps22
    go_wp2_with (first | (go_at_call 20; refine (may_any _ _ _).mono ?_; rintro e w' ⟨rfl, rfl⟩) | (go_at_call 15; refine (len_any _ _).mono ?_; rintro e w' ⟨rfl, rfl⟩))
    go_ret
    refine ⟨ret_bool ?_, rfl⟩
    simp [mostT, hm]
  · have hm : mayT t n = false := by simpa using hm
    go_enter Try.func22, Try.ntmps22
    go_wp2_with (first | (go_at_call 20; refine (may_any _ _ _).mono ?_; rintro e w' ⟨rfl, rfl⟩) | (go_at_call 15; refine (len_any _ _).mono ?_; rintro e w' ⟨rfl, rfl⟩))
    go_ret
    refine ⟨ret_bool ?_, rfl⟩
    simp [mostT, hm]

set_option maxHeartbeats 400000 in
theorem decider_any (view n : Int) (w : World) (h0 : -9223372036854775808 ≤ view) (h1 : view ≤ 9223372036854775807) :
    Calls Try.prog 24 #[.int .i64 view, .int .i64 n] w fun e w' => e = .returned (.int .i64 (decT view n)) ∧ w = w' := by
  by_cases hv : view < 1
  · go_enter Try.func24, Try.ntmps24
    go_wp2
    go_ret
    exact ⟨ret_int (by simp [decT, hv]), rfl⟩
  · by_cases hn : n < 3
    · go_enter Try.func24, Try.ntmps24
      go_wp2
      go_ret
      exact ⟨ret_int (by simp [decT, hn]), rfl⟩
    · by_cases hn' : 7 < n
      · go_enter Try.func24, Try.ntmps24
        go_wp2
        go_ret
        exact ⟨ret_int (by simp [decT, hn']), rfl⟩
      · have b1 : 0 ≤ (view - 1) % n := Int.emod_nonneg _ (by omega)
        have b2 : (view - 1) % n < 7 := by have := Int.emod_lt_of_pos (view - 1) (show 0 < n by omega); omega
        go_enter Try.func24, Try.ntmps24
        go_wp2
        go_ret
        exact ⟨ret_int (by rw [decT, if_neg (by omega)]), rfl⟩

set_option maxHeartbeats 400000 in
theorem of_any (v : Value) (l : List Int) (w : World) (hr : rdI w v l) :
    Calls Try.prog 12 #[v] w fun e w' => e = .returned (.int .i64 (l.foldl withT 0 : Nat)) ∧ w = w' := by
  obtain ⟨a, cap, rfl, hm, hM, ha⟩ := hr
  unfold maxLen at hM
  go_enter Try.func12, Try.ntmps12
  go_wp2
  go_loop [3, 8] (fun t i => ∃ k : Nat, k ≤ l.length ∧ i = .int .i64 k ∧ t = .int .i64 ((l.take k).foldl withT 0 : Nat) ∧ (l.take k).foldl withT 0 < 128) (fun _ i => l.length - (intOf i).toNat)
  case atStart => exact ⟨0, Nat.zero_le _, rfl, rfl, by simp⟩
  case round =>
    obtain ⟨k, hk, rfl, rfl, hT⟩ := hrel
    by_cases hlt : k < l.length
    · obtain ⟨b, off, rfl, hc⟩ := ha (by omega)
      have hck := hc k hlt
      have hs := Lib.hid (foldl_snoc l k hlt)
      have hw := withT_lt l[k] hT
      clear hc ha
      go_wp2_with (go_at_call 17; refine (with_nat _ _ _ (by assumption)).mono ?_; rintro e w' ⟨rfl, rfl⟩)
      go_round
      case rel => exact ⟨k + 1, by omega, by go_num, by rw [hs.out], by rw [hs.out]; exact hw⟩
      case measure => simp [intOf]; omega
    · go_wp2
      go_ret
      obtain rfl : k = l.length := by omega
      exact ⟨ret_int (by rw [List.take_length]), rfl⟩

theorem infoInt : (Try.prog.info? 3).map (fun i => (i.zero, i.size, i.bytes)) = some (some (.int .i64 0), 1, 8) := by kernel_rfl

/-- one round's append of a number -/
theorem own_step {w1 : World} {B : Nat} {T k : Nat} {v' : Value} (hy : hasT T (k + 1 : Nat) = true)
    (h : w1.ownsRow B 3 1 v' ((listTo T k).length + 1) (intsV (listTo T k) ++ [.int .i64 ((k : Int) + 1)])) : ownI w1 B 3 v' (listTo T (k + 1)) := by
  rw [ownI, listTo_yes hy]
  simpa [intsV] using h

set_option maxHeartbeats 400000 in
theorem list_nat (T : Nat) (w : World) (hT : T < 128) :
    Calls Try.prog 14 #[.int .i64 (T : Int)] w fun e w' => ∃ v, e = .returned v ∧ ownI w' w.heap.size 3 v (listT T) ∧ Below w.heap.size w w' := by
  obtain ⟨i0, hi, hz0, hz1, hz2⟩ := info_parts infoInt
  go_enter Try.func14, Try.ntmps14
  go_wp2
  go_loopw [3, 4] (fun v i wr => ∃ k : Nat, k ≤ 7 ∧ i = .int .i64 ((k : Int) + 1) ∧ ownI wr w.heap.size 3 v (listTo T k) ∧ Below w.heap.size w wr) (fun _ i _ => 8 - (intOf i).toNat)
  case atStart => exact ⟨0, Nat.zero_le _, rfl, World.ownsRow_nil _ _ _ _, Below.refl _ _⟩
  case round =>
    obtain ⟨k, hk, rfl, hown, hbel⟩ := hrel
    have hlen := listTo_len T k
    have hsz := hbel.size
    by_cases hlt : k < 7
    · by_cases hy : hasT T (k + 1 : Nat) = true
      · have hy' : hasT T ((k : Int) + 1) = true := hy
        go_wp2_with (first
          | (go_at_call 13; refine (has_nat _ _ _ hT).mono ?_; rintro e w' ⟨rfl, rfl⟩)
          | (at_builtin; refine wpList_append_own _ rfl _ _ 22 rfl w.heap.size 3 i0 (.int .i64 0) 1 8 Try.underlying22 hi hz0 hz1 hz2 rfl (by decide) _ _ _ rfl (World.ownsRow.alloc hown _) ⟨_, 0, none⟩ 1 1 [.int .i64 ((k : Int) + 1)] rfl rfl ?c1 ?c2 ?c3 ?c4 ?c5 ?_))
        case c1 =>
          intro j u hj
          match j, hj with
          | 0, hj => simp at hj; subst hj; simp [Addr.add]
        case c2 => intro u hu; simp at hu; subst hu; rfl
        case c3 => unfold maxLen; omega
        case c4 => omega
        case c5 => simp; omega
        intro v' w1 hown' hgrow _
        have ho := own_step hy hown'
        have hb1 : Below w.heap.size w w1 := (hbel.alloc hsz _).grown hgrow (by simp; omega) (fun k hk => (hown.lt k hk).1)
        clear hown' hgrow hown hbel
        go_wp2
        go_roundw
        case rel => exact ⟨k + 1, by omega, by go_num, ho, hb1⟩
        case measure => simp [intOf]; omega
      · have hy2 : hasT T (k + 1 : Nat) = false := by simpa using hy
        have hy' : hasT T ((k : Int) + 1) = false := hy2
        go_wp2_with (first
          | (go_at_call 13; refine (has_nat _ _ _ hT).mono ?_; rintro e w' ⟨rfl, rfl⟩))
        go_roundw
        case rel => exact ⟨k + 1, by omega, by go_num, by rw [listTo_no hy2]; exact hown, hbel⟩
        case measure => simp [intOf]; omega
    · obtain rfl : k = 7 := by omega
      go_wp2
      go_ret
      exact ⟨_, rfl, hown, hbel⟩

theorem list_any (t : Int) (w : World) (h : 0 ≤ t ∧ t < 128) :
    Calls Try.prog 14 #[.int .i64 t] w fun e w' => ∃ v, e = .returned v ∧ ownI w' w.heap.size 3 v (listT t.toNat) ∧ Below w.heap.size w w' := by
  obtain ⟨T, rfl⟩ := Int.eq_ofNat_of_zero_le h.1
  exact list_nat T w (by omega)
end Go.Proofs.Ytfhfhljjhgdbiaa
