/- Contracts of the reference: numbers, texts, sums, words. -/
import Derived.Test.YtbmldiklgkojnaaTbD
import Derived.Test.YtbmldiklgkojnaaUp
import Derived.BigQuiet
namespace Go.Proofs.Ytbmldiklgkojnaa
open Go.RowKit
set_option linter.unusedVariables false

set_option maxRecDepth 100000 in
set_option maxHeartbeats 4000000 in
theorem r1Put_any (n : Nat) (w : World) (hn : n ≤ 60) :
    Calls Try.prog 31 #[.int .i64 (n : Int)] w fun r w' => ∃ v', r = .returned v' ∧ ownB w' w.heap.size v' [UInt8.ofNat (2 * n)] ∧ Below w.heap.size w w' := by
  obtain ⟨i0, hi, hz0, hz1, hz2⟩ := info_parts infoByte
  replace hi := Lib.hid hi
  have hbv : byteV [UInt8.ofNat (2 * n)] = [.int .u8 ((2 * n : Nat) : Int)] := by
    unfold byteV
    simp
    omega
  replace hbv := Lib.hid hbv
  have hnil := Lib.hid (World.ownsRow_nil w w.heap.size 5 1)
  obtain ⟨base, hbase⟩ : ∃ b, b = w.heap.size := ⟨_, rfl⟩
  rw [← hbase] at hnil ⊢
  replace hbase := Lib.hid hbase
  go_enter Try.func31, Try.ntmps31
  go_wp2
  go_loopw [3, 4] (fun u a wr => u = .int .u64 ((n : Int) * 2) ∧ a = .slice none 0 0 ∧ wr = w) (fun _ _ _ => 0)
  case atStart => exact ⟨rfl, rfl, rfl⟩
  case round =>
    obtain ⟨rfl, rfl, rfl⟩ := hrel
    have hn' : Hid ((n : Int) * 2 = ((2 * n : Nat) : Int)) := Lib.hid (by omega)
    have hn2 : ¬ (n : Int) * 2 ≥ 128 := by omega
    have hi' := hi.out
    go_wp2_with (first
      | (at_builtin; refine wpList_append_own _ rfl _ _ 45 rfl base 5 i0 (.int .u8 0) 1 1 Try.underlying45 hi' hz0 hz1 hz2 rfl (by decide) _ _ _ rfl (World.ownsRow.alloc hnil.out _) ⟨_, 0, none⟩ 1 1 [.int .u8 ((n : Int) * 2)] rfl rfl ?c1 ?c2 ?c3 ?c4 ?c5 ?_))
    case c2 => rfl
    case c3 => unfold maxLen; omega
    case c5 => have := hbase.out; omega
    intro v7 w7 hown7 hg7 _
    rw [hn'.out, ← hbv.out] at hown7
    have hB7 : Below base wr w7 := ((Below.refl base wr).alloc (by rw [hbase.out]; exact Nat.le_refl _) _).grown hg7 (by have := hbase.out; simp; omega) (fun k hk => by cases hk)
    clear hg7
    have ho7 : ownB w7 base v7 [UInt8.ofNat (2 * n)] := hown7
    clear hown7
    replace ho7 := Lib.hid ho7
    replace hB7 := Lib.hid hB7
    go_wp2
    go_ret
    exact ⟨v7, rfl, ho7.out, hB7.out⟩

set_option maxRecDepth 100000 in
set_option maxHeartbeats 4000000 in
theorem r1PutText_any (s : ByteArray) (w : World) (hs : s.size ≤ 60) :
    Calls Try.prog 24 #[.string s] w fun r w' => ∃ v', r = .returned v' ∧ ownB w' w.heap.size v' (txtT s) ∧ Below w.heap.size w w' := by
  obtain ⟨i0, hi, hz0, hz1, hz2⟩ := info_parts infoByte
  replace hi := Lib.hid hi
  have hlen : (txtT s).length = 1 + s.size := by unfold txtT; rw [List.length_cons, size_len]; omega
  have hbv : byteV (txtT s) = byteV [UInt8.ofNat (2 * s.size)] ++ Lib.strCells s := by rw [strV, ← byteV_app]; rfl
  have hP := r1Put_any s.size w hs
  generalize UInt8.ofNat (2 * s.size) = ub at hP hbv
  replace hbv := Lib.hid hbv
  replace hlen := Lib.hid hlen
  replace hP := Lib.hid hP
  go_enter Try.func24, Try.ntmps24
  go_wp2_with fail
  refine hP.out.mono ?_
  rintro r w1 ⟨v1, rfl, ho1, hb1⟩
  have hsz := hb1.size
  have hi' := hi.out
  unfold ownB at ho1
  replace ho1 := Lib.hid ho1
  replace hb1 := Lib.hid hb1
  go_wp2_with (first
    | (at_builtin; refine Lib.wpList_append_own_string _ rfl _ _ 45 9 rfl w.heap.size 5 i0 Try.underlying45 Try.underlying9 hi' hz0 hz1 hz2 _ _ _ rfl ho1.out s rfl ?d1 ?d2 ?d3 ?_))
  case d1 => simp only [List.length_cons, List.length_nil]; unfold maxLen; omega
  case d2 => simp only [List.length_cons, List.length_nil]; omega
  case d3 => omega
  intro v7 w7 hown7 hg7 _
  have ho7 : ownB w7 w.heap.size v7 (txtT s) := by unfold ownB; rw [hbv.out, hlen.out]; exact hown7
  have hB7 : Below w.heap.size w w7 := hb1.out.grown hg7 (by omega) (fun k hk => (ho1.out.lt k hk).1)
  clear hg7 hown7
  replace ho7 := Lib.hid ho7
  replace hB7 := Lib.hid hB7
  go_wp2
  go_ret
  exact ⟨v7, rfl, ho7.out, hB7.out⟩

set_option maxRecDepth 100000 in
set_option maxHeartbeats 4000000 in
theorem r1Sum_any (v : Value) (l : List UInt8) (w : World) (h : rdB w v l) :
    Calls Try.prog 25 #[v] w fun r w' => r = .returned (.int .u32 (crcT l : Nat)) ∧ w = w' := by
  obtain ⟨a, cap, rfl, hm, hM, ha⟩ := h
  unfold maxLen at hM
  replace ha := Lib.hid ha
  go_enter Try.func25, Try.ntmps25
  go_wp2
  go_loop [3, 4] (fun s i => ∃ k : Nat, k ≤ l.length ∧ i = .int .i64 k ∧ s = .int .u32 (((l.take k).foldl byteC 4294967295 : Nat) : Int)) (fun _ i => l.length - (intOf i).toNat)
  case atStart => exact ⟨0, Nat.zero_le _, rfl, rfl⟩
  case round =>
    obtain ⟨k, hk, rfl, rfl⟩ := hrel
    by_cases hlt : k < l.length
    · obtain ⟨g, off, rfl, hc⟩ := ha.out (by omega)
      have hck := hc k hlt
      have hst := foldC_take l 4294967295 k hlt
      have hxl := foldC_lt (l.take k) (x := 4294967295) (by omega)
      clear hc
      generalize l[k] = b at hck hst
      generalize (l.take k).foldl byteC 4294967295 = x at hst hxl ⊢
      replace hst := Lib.hid hst
      have hbl := b.toNat_lt
      go_upto_region 6 with (fail)
      rw [u32_xor_nat x b.toNat hxl (by omega)]
      have hyl := xor_lt hxl (show b.toNat < 4294967296 by omega)
      have hst2 : Hid ((l.take (k + 1)).foldl byteC 4294967295 = stepsC 8 (x ^^^ b.toNat)) := hst
      clear hst
      generalize x ^^^ b.toNat = y at hst2 hyl ⊢
      go_wp2
      go_loop [3, 5] (fun s i => ∃ j : Nat, j ≤ 8 ∧ i = .int .i64 j ∧ s = .int .u32 ((stepsC j y : Nat) : Int)) (fun _ i => 8 - (intOf i).toNat)
      case atStart => exact ⟨0, Nat.zero_le _, rfl, rfl⟩
      case round =>
        obtain ⟨j, hj, rfl, rfl⟩ := hrel
        by_cases hlt8 : j < 8
        · have hsl := stepsC_lt hyl j
          have hnx : stepsC (j + 1) y = stepC (stepsC j y) := rfl
          generalize stepsC j y = z at hsl hnx ⊢
          unfold stepC at hnx
          by_cases hodd : z % 2 = 1
          · rw [if_pos hodd] at hnx
            have d1 : (((z : Int) % 2) == 1) = true := by simp; omega
            have hx : Hid (bits .xor .u32 ((z : Int) / 2) 3988292384 = ((stepsC (j + 1) y : Nat) : Int)) := Lib.hid (by
              rw [hnx, show (z : Int) / 2 = ((z / 2 : Nat) : Int) by omega, show (3988292384 : Int) = ((3988292384 : Nat) : Int) from rfl, u32_xor_nat _ _ (by omega) (by omega)])
            clear hnx
            go_upto_region 8 with (fail)
            rw [hx.out]
            go_wp2
            go_round
            case rel => exact ⟨j + 1, by omega, by go_num, rfl⟩
            case measure => simp [intOf]; omega
          · rw [if_neg hodd] at hnx
            have d1 : (((z : Int) % 2) == 1) = false := by simp; omega
            have hx : Hid ((z : Int) / 2 = ((stepsC (j + 1) y : Nat) : Int)) := Lib.hid (by rw [hnx]; omega)
            clear hnx
            go_upto_region 8 with (fail)
            rw [hx.out]
            go_wp2
            go_round
            case rel => exact ⟨j + 1, by omega, by go_num, rfl⟩
            case measure => simp [intOf]; omega
        · obtain rfl : j = 8 := by omega
          rw [← hst2.out]
          go_wp2
          go_round
          case rel => exact ⟨k + 1, by omega, by go_num, rfl⟩
          case measure => simp [intOf]; omega
    · obtain rfl : k = l.length := by omega
      rw [List.take_length]
      have hcl := foldC_lt l (x := 4294967295) (by omega)
      have hcr : Hid (crcT l = 4294967295 ^^^ l.foldl byteC 4294967295) := Lib.hid rfl
      generalize l.foldl byteC 4294967295 = x at hcl hcr ⊢
      have hsg : IntKind.u32.signed = false := rfl
      have hmx : Hid (bits .xor .u32 IntKind.u32.max (x : Int) = ((crcT l : Nat) : Int)) := Lib.hid (by
        rw [show IntKind.u32.max = ((4294967295 : Nat) : Int) by decide, u32_xor_nat _ _ (by omega) hcl, hcr.out])
      go_wp2
      all_goals first | (exfalso; simp_all; done) | skip
      all_goals
        rw [hmx.out]
        go_ret
        exact ⟨rfl, rfl⟩

theorem eqAt_le {s : ByteArray} {k : Nat} (h : k < s.size) (hk : s[k] = 61) : 0 ≤ eqAt s ∧ eqAt s ≤ k := by
  have h2 : k < s.data.toList.length := by rw [size_len]; exact h
  have e : s.data.toList[k] = 61 := hk
  unfold eqAt
  rcases indexByte_spec s.data.toList 61 with ⟨_, hn⟩ | ⟨i, hi, hl, h3, h4⟩
  · exact absurd (by rw [← e]; exact List.getElem_mem h2) hn
  · rw [hi]
    refine ⟨by omega, ?_⟩
    rcases Nat.lt_or_ge k i with hlt | hge
    · exfalso
      apply h4
      have h5 : k < (s.data.toList.take i).length := by rw [List.length_take]; omega
      have e2 : (s.data.toList.take i)[k] = 61 := by rw [List.getElem_take]; exact e
      rw [← e2]
      exact List.getElem_mem h5
    · omega
theorem eqAt_is {s : ByteArray} {i : Nat} (h : eqAt s = i) : ∃ hl : i < s.size, s[i] = 61 := by
  unfold eqAt at h
  rcases indexByte_spec s.data.toList 61 with ⟨e, _⟩ | ⟨j, e, hl, h3, _⟩
  · omega
  · obtain rfl : i = j := by omega
    exact ⟨by rw [← size_len]; exact hl, h3⟩
theorem byte61 (u : UInt8) : ((u.toNat : Int) == 61) = decide (u = 61) := by
  rw [Bool.eq_iff_iff, beq_iff_eq, decide_eq_true_eq]
  constructor
  · intro h
    exact UInt8.toNat_inj.1 (by have : u.toNat = 61 := by omega
                                rw [this]; rfl)
  · rintro rfl; rfl

set_option maxRecDepth 100000 in
set_option maxHeartbeats 4000000 in
theorem r12Word_any (s : ByteArray) (w : World) (hs : s.size ≤ 1000) :
    Calls Try.prog 16 #[.string s] w fun r w' => r = .returned (.tuple #[.string (wordT s).1, .string (wordT s).2.1, .bool (wordT s).2.2]) ∧ Below w.heap.size w w' := by
  have hW : wordT s = if 1 ≤ eqAt s then (s.extract 0 (eqAt s).toNat, s.extract ((eqAt s).toNat + 1) s.size, true) else (ByteArray.empty, ByteArray.empty, false) := rfl
  obtain ⟨⟨x, y, z⟩, hw⟩ : ∃ t, wordT s = t := ⟨_, rfl⟩
  rw [hw] at hW ⊢
  replace hW := Lib.hid hW
  clear hw
  dsimp only
  go_enter Try.func16, Try.ntmps16
  go_wp2
  go_loop [5] (fun i => ∃ k : Nat, 1 ≤ k ∧ k ≤ s.size + 1 ∧ i = .int .i64 k ∧ (eqAt s ≤ 0 ∨ (k : Int) ≤ eqAt s)) (fun i => s.size + 1 - (intOf i).toNat)
  case atStart => exact ⟨1, Nat.le_refl _, by omega, rfl, by omega⟩
  case round =>
    obtain ⟨k, hk1, hk2, rfl, hp⟩ := hrel
    by_cases hlt : k < s.size
    · have hle := fun h => eqAt_le (s := s) hlt h
      have h0s : 0 < s.size := by omega
      have hle0 := fun (h : s[0] = 61) => eqAt_le (s := s) (k := 0) h0s h
      have his := fun h => eqAt_is (s := s) (i := k) h
      have hb1 := byte61 s[k]
      have hb0 := byte61 (s[0])
      by_cases h1 : s[k] = 61
      · rw [decide_eq_true h1] at hb1
        obtain ⟨l1, l2⟩ := hle h1
        by_cases h2 : s[0] = 61
        · rw [decide_eq_true h2] at hb0
          have hz := hle0 h2
          clear hle hle0 his
          replace h1 := Lib.hid h1
          replace h2 := Lib.hid h2
          go_wp2
          go_round
          case rel => exact ⟨k + 1, by omega, by omega, by go_num, .inl (by omega)⟩
          case measure => simp [intOf]; omega
        · rw [decide_eq_false h2] at hb0
          have hek : eqAt s = k := by
            rcases hp with hp | hp
            · exfalso
              obtain ⟨_, e0⟩ := eqAt_is (s := s) (i := 0) (by omega)
              exact h2 e0
            · omega
          have hz : Hid ((x, y, z) = (s.extract 0 k, s.extract (k + 1) s.size, true)) := Lib.hid (by rw [hW.out, hek, if_pos (by omega)]; rfl)
          obtain ⟨rfl, hz2⟩ := Prod.mk.inj hz.out
          obtain ⟨rfl, rfl⟩ := Prod.mk.inj hz2
          have hb0' : ((s[0].toNat : Int) != 61) = true := by simp [bne, hb0]
          clear hle hle0 his hp hek hz hz2
          replace h1 := Lib.hid h1
          replace h2 := Lib.hid h2
          have hkk : (k : Int) + 1 ≤ s.size := by omega
          go_upto_region 5 with (fail)
          refine wp_region_up (by kernel_rfl) (by kernel_rfl) ?_
          repeat (go_big_quiet_step (fail))
          refine wpQuiet_nil ?_
          intro w2 hw2
          have hb2 := Lib.hid (up_below hw2)
          clear hw2
          go_wp2
          exact bodyPost_ret (v := .tuple #[.string (s.extract 0 k), .string (s.extract (k + 1) s.size), .bool true]) (by simp [results, Try.results16, go_sem]) rfl ⟨rfl, hb2.out⟩
      · rw [decide_eq_false h1] at hb1
        have hnx : eqAt s ≤ 0 ∨ ((k + 1 : Nat) : Int) ≤ eqAt s := by
          rcases hp with hp | hp
          · exact .inl hp
          · right
            rcases Int.lt_or_le (k : Int) (eqAt s) with h | h
            · omega
            · obtain ⟨_, e⟩ := his (by omega)
              exact absurd e h1
        clear hle hle0 his hp
        replace h1 := Lib.hid h1
        go_wp2
        go_round
        case rel => exact ⟨k + 1, by omega, by omega, by go_num, hnx⟩
        case measure => simp [intOf]; omega
    · have hno : eqAt s ≤ 0 := by
        rcases eqAt_cases s with e | ⟨i, e, hi⟩
        · omega
        · omega
      have hz : Hid ((x, y, z) = (ByteArray.empty, ByteArray.empty, false)) := Lib.hid (by rw [hW.out, if_neg (by omega)])
      obtain ⟨rfl, hz2⟩ := Prod.mk.inj hz.out
      obtain ⟨rfl, rfl⟩ := Prod.mk.inj hz2
      clear hz hz2 hp hno
      go_wp2
      exact bodyPost_ret (v := .tuple #[.string ByteArray.empty, .string ByteArray.empty, .bool false]) (by simp [results, Try.results16, go_sem] <;> rfl) rfl ⟨rfl, Below.refl _ _⟩
end Go.Proofs.Ytbmldiklgkojnaa
