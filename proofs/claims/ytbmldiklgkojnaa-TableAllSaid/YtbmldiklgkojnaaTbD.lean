/- Contract: the sum of bytes. -/
import Derived.Test.YtbmldiklgkojnaaTbC
import Derived.Laws.BitsAllLaws
namespace Go.Proofs.Ytbmldiklgkojnaa
open Go.RowKit
set_option linter.unusedVariables false

def rdB (w : World) (v : Value) (l : List UInt8) : Prop :=
  ∃ a cap, v = .slice a l.length cap ∧ l.length ≤ cap ∧ cap ≤ maxLen ∧ (0 < l.length → ∃ b off, a = some ⟨b, off, none⟩ ∧ ∀ j (h : j < l.length), w.cell? ⟨b, off + j, none⟩ = some (.int .u8 l[j].toNat))
theorem ownB.rd {w : World} {base : Nat} {v : Value} {l : List UInt8} (h : ownB w base v l) : rdB w v l := by
  obtain ⟨hl, ⟨rfl, h0⟩ | ⟨g, cap, cur, rfl, hb, hg, hn, hc, hs, ht⟩⟩ := h
  · exact ⟨none, 0, by rw [h0], by rw [h0]; exact Nat.zero_le _, Nat.zero_le _, fun h => by omega⟩
  · refine ⟨some ⟨g, 0, none⟩, cap, rfl, hn, hc, fun _ => ⟨g, 0, rfl, fun j hj => ?_⟩⟩
    have h1 : (cur.toList.take (l.length * 1))[j]? = some (.int .u8 l[j].toNat) := by
      rw [ht]; unfold byteV
      rw [List.getElem?_map, List.getElem?_eq_getElem hj]; rfl
    rw [List.getElem?_take] at h1
    split at h1
    · simp [World.cell?, hg] at h1 ⊢
      simpa using h1
    · cases h1
theorem foldl_take {α β : Type} (f : α → β → α) (a : α) (l : List β) (k : Nat) (h : k < l.length) : (l.take (k + 1)).foldl f a = f ((l.take k).foldl f a) l[k] := by
  rw [List.take_succ_eq_append_getElem h, List.foldl_append]; rfl
theorem foldC_take (l : List UInt8) (x : Nat) (k : Nat) (h : k < l.length) : (l.take (k + 1)).foldl byteC x = byteC ((l.take k).foldl byteC x) l[k] := by
  rw [List.take_succ_eq_append_getElem h, List.foldl_append]; rfl

theorem exprC (z : Nat) (hz : z < 4294967296) : bits .xor .u32 ((z : Int) / 2) (bits .and .u32 3988292384 (-bits .and .u32 (z : Int) 1 % 4294967296)) = ((stepC z : Nat) : Int) := by
  have h1 : bits .and .u32 (z : Int) 1 = ((z % 2 : Nat) : Int) := by rw [show (1 : Int) = ((1 : Nat) : Int) from rfl, u32_and_nat z 1 hz (by omega), Nat.and_one_is_mod]
  have h2 : (z : Int) / 2 = ((z / 2 : Nat) : Int) := by omega
  rw [h1, h2]
  unfold stepC
  by_cases h : z % 2 = 1
  · rw [if_pos h, h, show (-((1 : Nat) : Int)) % 4294967296 = ((4294967295 : Nat) : Int) by decide, show (3988292384 : Int) = ((3988292384 : Nat) : Int) from rfl, u32_and_nat _ _ (by omega) (by omega),
      show (3988292384 &&& 4294967295 : Nat) = 3988292384 by decide, u32_xor_nat _ _ (by omega) (by omega)]
  · have h0 : z % 2 = 0 := by omega
    rw [if_neg h, h0, show (-((0 : Nat) : Int)) % 4294967296 = ((0 : Nat) : Int) by decide, show (3988292384 : Int) = ((3988292384 : Nat) : Int) from rfl, u32_and_nat _ _ (by omega) (by omega),
      show (3988292384 &&& 0 : Nat) = 0 by decide, u32_xor_nat _ _ (by omega) (by omega), Nat.xor_zero]
set_option maxRecDepth 100000 in
set_option maxHeartbeats 4000000 in
theorem cSum_any (v : Value) (l : List UInt8) (w : World) (h : rdB w v l) :
    Calls Try.prog 23 #[v] w fun r w' => r = .returned (.int .u32 (crcT l : Nat)) ∧ w = w' := by
  obtain ⟨a, cap, rfl, hm, hM, ha⟩ := h
  unfold maxLen at hM
  replace ha := Lib.hid ha
  go_enter Try.func23, Try.ntmps23
  go_wp2
  go_loop [3, 8] (fun s i => ∃ k : Nat, k ≤ l.length ∧ i = .int .i64 k ∧ s = .int .u32 (((l.take k).foldl byteC 4294967295 : Nat) : Int)) (fun _ i => l.length - (intOf i).toNat)
  case atStart => exact ⟨0, Nat.zero_le _, rfl, rfl⟩
  case round =>
    obtain ⟨k, hk, rfl, rfl⟩ := hrel
    by_cases hlt : k < l.length
    · obtain ⟨g, off, rfl, hc⟩ := ha.out (by omega)
      have hck := hc k hlt
      have hst := foldC_take l 4294967295 k hlt
      have hxl := foldC_lt (l.take k) (x := 4294967295) (by omega)
      clear hc
      generalize l[k] = b at hck hst
      generalize (l.take k).foldl byteC 4294967295 = x at hst hxl ⊢
      replace hst := Lib.hid hst
      have hbl := b.toNat_lt
      go_upto_region 6 with (fail)
      rw [u32_xor_nat x b.toNat hxl (by omega)]
      have hyl := xor_lt hxl (show b.toNat < 4294967296 by omega)
      have hst2 : Hid ((l.take (k + 1)).foldl byteC 4294967295 = stepsC 8 (x ^^^ b.toNat)) := hst
      clear hst
      generalize x ^^^ b.toNat = y at hst2 hyl ⊢
      go_wp2
      go_loop [3, 16] (fun s i => ∃ j : Nat, j ≤ 8 ∧ i = .int .i64 j ∧ s = .int .u32 ((stepsC j y : Nat) : Int)) (fun _ i => 8 - (intOf i).toNat)
      case atStart => exact ⟨0, Nat.zero_le _, rfl, rfl⟩
      case round =>
        obtain ⟨j, hj, rfl, rfl⟩ := hrel
        by_cases hlt8 : j < 8
        · have hsl := stepsC_lt hyl j
          have hnx : stepsC (j + 1) y = stepC (stepsC j y) := rfl
          generalize stepsC j y = z at hsl hnx ⊢
          replace hnx := Lib.hid hnx
          go_upto_region 9 with (fail)
          rw [exprC z hsl, ← hnx.out]
          go_wp2
          go_round
          case rel => exact ⟨j + 1, by omega, by go_num, rfl⟩
          case measure => simp [intOf]; omega
        · obtain rfl : j = 8 := by omega
          rw [← hst2.out]
          go_wp2
          go_round
          case rel => exact ⟨k + 1, by omega, by go_num, rfl⟩
          case measure => simp [intOf]; omega
    · obtain rfl : k = l.length := by omega
      rw [List.take_length]
      have hcl := foldC_lt l (x := 4294967295) (by omega)
      have hcr : Hid (crcT l = 4294967295 ^^^ l.foldl byteC 4294967295) := Lib.hid rfl
      generalize l.foldl byteC 4294967295 = x at hcl hcr ⊢
      have hsg : IntKind.u32.signed = false := rfl
      have hmx : Hid (bits .xor .u32 IntKind.u32.max (x : Int) = ((crcT l : Nat) : Int)) := Lib.hid (by
        rw [show IntKind.u32.max = ((4294967295 : Nat) : Int) by decide, u32_xor_nat _ _ (by omega) hcl, hcr.out])
      go_wp2
      all_goals first | (exfalso; simp_all; done) | skip
      all_goals
        rw [hmx.out]
        go_ret
        exact ⟨rfl, rfl⟩
end Go.Proofs.Ytbmldiklgkojnaa
