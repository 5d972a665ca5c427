/- Four entries may wait; what stands fast makes room. -/
import Derived.Test.YtbonjbokofkafaaGreatPkW
import Derived.Test.YtbonjbokofkafaaGreatPkK
import Derived.Test.YtbonjbokofkafaaGreatPkA
namespace Go.Proofs.YtbonjbokofkafaaGreat.lawClientBusy
open Go.ChangeShapes Go.WideShapes Go.ChangeAt Go.RowKit
set_option linter.unusedVariables false

def castN : Nat → Nd
  | 0 => B12
  | k + 1 => ((castN k).cast 1 1 ⟨#[120]⟩).1
theorem cast_ok : ∀ k, k < 12 → ((castN k).cast 1 1 ⟨#[120]⟩).2 = if 4 ≤ k then 9 else 0 := by decide +kernel
theorem end_ok : ∀ n, n < 13 → (runA (castN n) 3).pend.length = 0 ∧ (runA (castN n) 3).td.length = min n 4 ∧ ((runA (castN n) 3).cast 0 0 ⟨#[121]⟩).2 = 0 := by decide +kernel
set_option maxRecDepth 100000 in
set_option maxHeartbeats 32000000 in
theorem walk (mm a0 : Int) (w : World) (hmm : w.cell? ⟨0, 0, none⟩ = some (.int .i64 mm)) (h0 : -9223372036854775808 ≤ a0 ∧ a0 ≤ 9223372036854775807) :
    Calls Tryz.prog 7 #[.int .i64 a0] w fun r w' => r = .returned (.bool true) ∧ Below w.heap.size w w' := by
  have hB := Lib.hid (b26_any w ⟨mm, hmm⟩)
  have m0 := Lib.hid (⟨mm, hmm⟩ : ∃ m, w.cell? ⟨0, 0, none⟩ = some (.int .i64 m))
  clear hmm
  by_cases hr : 0 ≤ a0 ∧ a0 ≤ 12
  case neg =>
    have hr2 : a0 < 0 ∨ ¬ a0 < 0 ∧ 12 < a0 := by omega
    clear hr
    go_enter Tryz.func7, Tryz.ntmps7
    go_wp2_with fail
    refine hB.out.mono ?_
    rintro r w1 ⟨rfl, hb1⟩
    replace hb1 := Lib.hid hb1
    rcases hr2 with h | ⟨h, h'⟩
    · have e1 : decide (a0 < 0) = true := decide_eq_true (by omega)
      go_wp2
      go_ret
      exact ⟨rfl, hb1.out⟩
    · have e1 : decide (a0 < 0) = false := decide_eq_false (by omega)
      have e2 : decide (12 < a0) = true := decide_eq_true (by omega)
      go_wp2
      go_ret
      exact ⟨rfl, hb1.out⟩
  case pos =>
    obtain ⟨hr1, hr2⟩ := hr
    obtain ⟨n, rfl⟩ : ∃ t : Nat, a0 = (t : Int) := ⟨a0.toNat, by omega⟩
    have hn : n ≤ 12 := by omega
    have e1 : decide ((n : Int) < 0) = false := decide_eq_false (by omega)
    have e2 : decide ((12 : Int) < (n : Int)) = false := decide_eq_false (by omega)
    clear hr1 hr2 h0
    go_enter Tryz.func7, Tryz.ntmps7
    go_wp2_with fail
    refine hB.out.mono ?_
    rintro r w1 ⟨rfl, hb1⟩
    obtain ⟨m, hm⟩ := m0.out
    have hT := Lib.hid (trio_any w1 ⟨m, by rw [hb1.cell (cell_lt hm)]; exact hm⟩)
    replace hb1 := Lib.hid hb1
    clear hB hm
    go_wp2_with fail
    refine hT.out.mono ?_
    rintro r w2 ⟨own2, b, dk, cb, rfl, g2, x2⟩
    replace g2 := Lib.hid g2
    replace x2 := Lib.hid x2
    clear hT e1 e2
    go_wp2
    go_loopw [6] (fun i wr => ∃ (k : Nat) (own : Nat → Nat), k ≤ n ∧ i = .int .i64 k ∧ GX own w1 wr b dk 40 (castN k) ∧ CX own wr cb b 0 ((k - 4 : Nat) : Int)) (fun i _ => n - (intOf i).toNat)
    case atStart => exact ⟨0, own2, Nat.zero_le _, rfl, g2.out, x2.out⟩
    case round =>
      obtain ⟨k, own, hk, rfl, pk, xk⟩ := hrel
      by_cases hlt : k < n
      · have hC := cxCast pk xk (by omega) (by omega) 1 1 ⟨#[120]⟩
        rw [cast_ok k (by omega)] at hC
        replace hC := Lib.hid hC
        clear pk xk
        by_cases h4 : 4 ≤ k
        · have hd : decide ((4 : Int) ≤ (k : Int)) = true := decide_eq_true (by omega)
          rw [if_pos h4] at hC
          go_wp2_with fail
          refine hC.out.mono ?_
          rintro r w4 ⟨own4, rfl, g4, x4, _⟩
          have x4 := Lib.hid (show CX own4 w4 cb b 0 ((k + 1 - 4 : Nat) : Int) from by
            rw [if_neg (by decide)] at x4
            rw [show ((k + 1 - 4 : Nat) : Int) = ((k - 4 : Nat) : Int) + 1 by omega]; exact x4)
          replace g4 := Lib.hid g4
          clear hC
          go_wp2
          go_roundw
          case rel => exact ⟨k + 1, own4, by omega, by go_num, g4.out, x4.out⟩
          case measure => simp [intOf]; omega
        · have hd : decide ((4 : Int) ≤ (k : Int)) = false := decide_eq_false (by omega)
          rw [if_neg h4] at hC
          go_wp2_with fail
          refine hC.out.mono ?_
          rintro r w4 ⟨own4, rfl, g4, x4, _⟩
          have x4 := Lib.hid (show CX own4 w4 cb b 0 ((k + 1 - 4 : Nat) : Int) from by
            first | rw [if_pos rfl] at x4 | rw [if_pos trivial] at x4
            rw [show ((k + 1 - 4 : Nat) : Int) = ((k - 4 : Nat) : Int) by omega]; exact x4)
          replace g4 := Lib.hid g4
          clear hC
          go_wp2
          go_roundw
          case rel => exact ⟨k + 1, own4, by omega, by go_num, g4.out, x4.out⟩
          case measure => simp [intOf]; omega
      · have hkn : k = n := by omega
        subst hkn
        replace pk := Lib.hid pk
        replace xk := Lib.hid xk
        obtain ⟨lo, hlo⟩ : ∃ lo : Int, lo = ((k - 4 : Nat) : Int) := ⟨_, rfl⟩
        have hlo2 : lo = max 0 ((k : Int) - 4) := by omega
        rw [← hlo] at xk
        replace hlo := Lib.hid hlo
        replace hlo2 := Lib.hid hlo2
        go_wp2
        go_loopw [8] (fun i wr => ∃ (j : Nat) (own : Nat → Nat), j ≤ 3 ∧ i = .int .i64 j ∧ GX own w1 wr b dk (40 + 10 * j) (runA (castN k) j) ∧ CX own wr cb b 0 lo) (fun i _ => 3 - (intOf i).toNat)
        case atStart => exact ⟨0, own, Nat.zero_le _, rfl, pk.out, xk.out⟩
        case round =>
          obtain ⟨j, own5, hj, rfl, gj, xj⟩ := hrel
          by_cases hlt2 : j < 3
          · have hcall := Lib.hid (gxTick gj (by omega))
            have hout := Lib.hid (gj.fu.ok.tickM gj.fu.mn (by omega))
            replace xj := Lib.hid xj
            clear gj
            go_wp2_with fail
            refine hcall.out.mono ?_
            rintro r w5 ⟨v5, own6, o5, rfl, g5, k5, q5, e5⟩
            have x5 := Lib.hid (xj.out.keep k5)
            have hA := Lib.hid (acks_any g5 v5 o5 _ q5 e5 (nums_of hout.out.2) (by have := hout.out.1; omega) (by omega))
            clear hcall k5 q5 e5 g5
            go_wp2_with fail
            refine hA.out.mono ?_
            rintro r w6 ⟨rfl, own7, g6, k6⟩
            have g6 := Lib.hid (show GX own7 w1 w6 b dk (40 + 10 * (j + 1)) (runA (castN k) (j + 1)) from g6.up (by have := hout.out.1; omega))
            have x6 := Lib.hid (x5.out.keep k6)
            clear hA k6 hout
            go_wp2
            go_roundw
            case rel => exact ⟨j + 1, own7, by omega, by go_num, g6.out, x6.out⟩
            case measure => simp [intOf]; omega
          · obtain rfl : j = 3 := by omega
            obtain ⟨f1, f2, f3⟩ := end_ok k (by omega)
            generalize runA (castN k) 3 = S at gj f1 f2 f3
            have hL := Lib.hid (cxLost xj)
            replace gj := Lib.hid gj
            replace xj := Lib.hid xj
            replace f1 := Lib.hid f1
            replace f2 := Lib.hid f2
            replace f3 := Lib.hid f3
            go_wp2_with fail
            refine hL.out.mono ?_
            rintro r w7 ⟨rfl, hb7⟩
            have g7 := Lib.hid (gj.out.grow hb7)
            have x7 := Lib.hid (xj.out.grow hb7)
            have hS := cxStatus g7.out x7.out (by omega)
            unfold stV at hS
            rw [f1.out] at hS
            generalize S.view.2.2 = y1 at hS
            generalize S.good = y2 at hS
            generalize S.view.1 = y3 at hS
            generalize (S.L.length : Int) = y4 at hS
            generalize S.com = y5 at hS
            generalize (S.td.length : Int) = y6 at hS
            replace hS := Lib.hid hS
            have hfd : ∀ w : World, (Instr.field 47 (.agg #[.bool true, .bool y1, .bool y2, .int .i64 y3, .int .i64 y4, .int .i64 y5, .int .i64 y6, .int .i64 0]) 7).run Tryz.prog w = .ok (.int .i64 0) w := fun _ => by kernel_rfl
            have hmx : (lo == max 0 ((k : Int) - 4)) = true := by rw [hlo2.out]; simp
            clear hL hb7
            go_wp2_with fail
            refine hS.out.mono ?_
            rintro r w8 ⟨rfl, hb8⟩
            have g8 := Lib.hid (g7.out.grow hb8)
            have x8 := Lib.hid (x7.out.grow hb8)
            have hP := Lib.hid (cxPoll (k := 0) g8.out x8.out (by omega) (Nat.zero_le _))
            clear hS hb8
            go_wp2_with fail
            refine hP.out.mono ?_
            rintro r w9 ⟨v9, rfl, g9, x9, k9, r9, f9⟩
            obtain ⟨a9, c9, rfl⟩ := r9.len
            obtain ⟨q9, hq9⟩ : ∃ q, q = min k 4 := ⟨_, rfl⟩
            rw [List.length_drop, f2.out, Nat.sub_zero, ← hq9]
            have hmn : ((q9 : Int) == min (k : Int) 4) = true := by rw [hq9]; simp; omega
            have hC := cxCast g9 x9 (by have := hlo.out; omega) (by have := hlo.out; omega) 0 0 ⟨#[121]⟩
            rw [f3.out] at hC
            replace hC := Lib.hid hC
            clear hP k9 r9 f9 g9 x9
            replace hq9 := Lib.hid hq9
            go_wp2_with fail
            refine hC.out.mono ?_
            rintro r wa ⟨owna, rfl, ga, xa, ka⟩
            have hfin := Lib.hid (hb1.out.trans (ga.px.bel.mono hb1.out.size))
            clear hC ga xa ka
            go_wp2
            go_ret
            exact ⟨rfl, hfin.out⟩

/-! the row's step, written out by law.py -/
set_option maxRecDepth 100000 in
theorem lifted (os : Os) (started : os.Started) (H : Type) (enc : TypeId × Value → H) :
    ReturnsInHanded {} Tryz.checked os 7 .any (Rows.clientBusySpec.pre6 enc Tryz.prog Tryz.f7 Rows.clientBusyRow.domain false) (Rows.clientBusySpec.post enc Tryz.prog Tryz.f7 false true false false) := by
  refine returnsInHanded_of_change_shaped (C := Tryz.checked) own started (by kernel_rfl) Tryz.func7
    (ChangeSpec.witness6 (enc := enc) (C := Tryz.checked) false ⟨#[], #[.int .i64 0], []⟩ 8 (by kernel_rfl) (by kernel_rfl) (by kernel_rfl) (by kernel_rfl)) ?_
  intro W base args ds gs before hval0 hW hcnd _ hsh _
  have hval : ∀ (j : Nat) t v, Tryz.f7.params[j]? = some t → args[j]? = some v → Value.okWide Tryz.prog W .any base t v := hval0
  have hW' := hW
  obtain ⟨p, q, hA0, hV, rfl, hfz, hnd⟩ := hW
  have hA : DataW.TrodAll enc Tryz.prog W 0 (fun _ => true) true Tryz.f7.params.toList args.toList ds p := hA0
  rw [Tryz.params7] at hA hval
  obtain ⟨v0, vs0, d0, ds0, p0, q0, hargs, rfl, rfl, h0, r0⟩ := trodAll_cons hA
  obtain ⟨rfl, rfl, rfl⟩ := trodAll_nil r0
  obtain rfl : args = #[v0] := by cases args; simp_all
  obtain ⟨rfl, rfl⟩ := trodVars_none hV
  have k0 := h0
  have lt0 : ∀ x ∈ p0, x.block < W.heap.size := by obtain ⟨m, hm⟩ := k0; exact DataW.trod_lt m _ _ _ hm
  obtain ⟨a0, rfl, rfl, rfl, w0⟩ := open_int Tryz.underlying3 (hval 0 3 v0 rfl rfl) h0
  have w0 := bounds_i64 w0
  clear hA0 hval0
  simp only [List.append_nil] at hW'
  obtain ⟨m, hm⟩ := maxLen_cell W hsh
  refine (walk m a0 W hm w0).mono fun e W' ⟨he, bel⟩ => ?_
  subst he
  exact ⟨_, rfl, _, _, _, [], _, [], hW', trodAll_mk1 (shut_bool Tryz.underlying4 _), (trodAll_cons_mk (Below.trod laidOut (by kernel_rfl) (of_decide_eq_true (by kernel_rfl)) k0 bel lt0) trodAll_mk0), rfl, bel.frame _, fun h => by cases h⟩

theorem over : Rows.clientBusyRow.holds Tryz.pinned (OpenSpec.ofChange Rows.clientBusySpec) :=
  OpenClaim.holds_of_wide 7 Tryz.f7 rfl rfl rfl rfl rfl rfl rfl ⟨rfl, rfl, rfl, rfl, rfl⟩ rfl rfl rfl rfl rfl (by kernel_rfl) Tryz.func7 (by kernel_rfl)
    (of_decide_eq_true (by kernel_rfl)) (by unfold Func.isWrapper; first | (rw [if_pos (by decide +kernel)]; kernel_rfl) | (rw [if_neg (by decide +kernel)]; exact ⟨rfl, rfl⟩))
    (fun os started H enc _ => lifted os started H enc)

theorem proved : Rows.ClientBusySaid := over
end Go.Proofs.YtbonjbokofkafaaGreat.lawClientBusy
