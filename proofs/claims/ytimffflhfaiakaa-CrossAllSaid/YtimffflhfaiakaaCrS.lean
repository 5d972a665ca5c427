/- Contracts of the reference: who has a time; the least end of those that have it. -/
import Derived.Test.YtimffflhfaiakaaCrE
import Derived.Test.YtimffflhfaiakaaCrR
namespace Go.Proofs.Ytimffflhfaiakaa
open Go.RowKit
set_option linter.unusedVariables false

set_option maxRecDepth 100000 in
set_option maxHeartbeats 2000000 in
theorem rCount_any (v : Value) (l : List Rg) (t : Int) (w : World) (hr : rdR w v l) :
    Calls Try.prog 22 #[v, .int .i64 t] w fun r w' => r = .returned (.int .i64 (cntR l t : Nat)) ∧ w = w' := by
  obtain ⟨a, cap, rfl, hm, hM, ha⟩ := hr
  unfold maxLen at hM
  replace ha := Lib.hid ha
  go_enter Try.func22, Try.ntmps22
  go_wp2
  go_loop [5, 6] (fun s i => ∃ k : Nat, k ≤ l.length ∧ i = .int .i64 k ∧ s = .int .i64 ((cntR (l.take k) t : Nat) : Int)) (fun _ i => l.length - (intOf i).toNat)
  case atStart => exact ⟨0, Nat.zero_le _, rfl, rfl⟩
  case round =>
    obtain ⟨k, hk, rfl, rfl⟩ := hrel
    by_cases hlt : k < l.length
    · obtain ⟨g, off, rfl, hc⟩ := ha.out (by omega)
      have hck := hc k hlt
      have hst := cntR_take l t k hlt
      have hle := cntR_le (l.take k) t
      rw [List.length_take] at hle
      clear hc
      generalize l[k] = x at hck hst
      obtain ⟨lo, hi⟩ := x
      obtain ⟨c0, c1⟩ := hck
      dsimp only at c0 c1
      generalize cntR (l.take k) t = s at hst hle ⊢
      unfold inR at hst
      replace hst := Lib.hid hst
      by_cases h1 : lo ≤ t
      · by_cases h2 : t ≤ hi
        · have b1 : Hid (cntR (l.take (k + 1)) t = s + 1) := Lib.hid (by rw [hst.out]; simp [h1, h2])
          go_wp2
          go_round
          case rel => exact ⟨k + 1, by omega, by go_num, by rw [b1.out]; go_num⟩
          case measure => simp [intOf]; omega
        · have b1 : Hid (cntR (l.take (k + 1)) t = s) := Lib.hid (by rw [hst.out]; simp [h2])
          go_wp2
          go_round
          case rel => exact ⟨k + 1, by omega, by go_num, by rw [b1.out]⟩
          case measure => simp [intOf]; omega
      · have b1 : Hid (cntR (l.take (k + 1)) t = s) := Lib.hid (by rw [hst.out]; simp [h1])
        go_wp2
        go_round
        case rel => exact ⟨k + 1, by omega, by go_num, by rw [b1.out]⟩
        case measure => simp [intOf]; omega
    · obtain rfl : k = l.length := by omega
      rw [List.take_length]
      go_wp2
      go_ret
      exact ⟨rfl, rfl⟩

/-- the least end of those that have it -/
def endStep (t : Int) (h : Int) (r : Rg) : Int := if inR r t then min h r.high else h
def endR (l : List Rg) (t : Int) : Int := l.foldl (endStep t) maxI

set_option maxRecDepth 100000 in
set_option maxHeartbeats 2000000 in
theorem rEnds_any (v : Value) (l : List Rg) (t : Int) (w : World) (hr : rdR w v l) :
    Calls Try.prog 39 #[v, .int .i64 t] w fun r w' => r = .returned (.int .i64 (endR l t)) ∧ w = w' := by
  obtain ⟨a, cap, rfl, hm, hM, ha⟩ := hr
  unfold maxLen at hM
  replace ha := Lib.hid ha
  go_enter Try.func39, Try.ntmps39
  go_wp2
  go_loop [5, 6] (fun s i => ∃ k : Nat, k ≤ l.length ∧ i = .int .i64 k ∧ s = .int .i64 ((l.take k).foldl (endStep t) maxI)) (fun _ i => l.length - (intOf i).toNat)
  case atStart => exact ⟨0, Nat.zero_le _, rfl, rfl⟩
  case round =>
    obtain ⟨k, hk, rfl, rfl⟩ := hrel
    by_cases hlt : k < l.length
    · obtain ⟨g, off, rfl, hc⟩ := ha.out (by omega)
      have hck := hc k hlt
      have hst := foldl_take (endStep t) maxI l k hlt
      clear hc
      generalize l[k] = x at hck hst
      obtain ⟨lo, hi⟩ := x
      obtain ⟨c0, c1⟩ := hck
      dsimp only at c0 c1
      generalize (l.take k).foldl (endStep t) maxI = s at hst ⊢
      unfold endStep inR at hst
      replace hst := Lib.hid hst
      by_cases h1 : lo ≤ t
      · by_cases h2 : t ≤ hi
        · have b1 : Hid ((l.take (k + 1)).foldl (endStep t) maxI = min s hi) := Lib.hid (by have := hst.out; simp only [h1, h2] at this; exact this)
          go_wp2
          go_round
          case rel => exact ⟨k + 1, by omega, by go_num, by rw [b1.out]⟩
          case measure => simp [intOf]; omega
        · have b1 : Hid ((l.take (k + 1)).foldl (endStep t) maxI = s) := Lib.hid (by have := hst.out; simp only [h1, h2] at this; exact this)
          go_wp2
          go_round
          case rel => exact ⟨k + 1, by omega, by go_num, by rw [b1.out]⟩
          case measure => simp [intOf]; omega
      · have b1 : Hid ((l.take (k + 1)).foldl (endStep t) maxI = s) := Lib.hid (by have := hst.out; simp only [h1] at this; exact this)
        go_wp2
        go_round
        case rel => exact ⟨k + 1, by omega, by go_num, by rw [b1.out]⟩
        case measure => simp [intOf]; omega
    · obtain rfl : k = l.length := by omega
      rw [List.take_length]
      go_wp2
      go_ret
      exact ⟨rfl, rfl⟩
end Go.Proofs.Ytimffflhfaiakaa
