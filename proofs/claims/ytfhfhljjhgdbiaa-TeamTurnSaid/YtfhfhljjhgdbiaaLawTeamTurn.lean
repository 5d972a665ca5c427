/- In as many views as there are processes each decides once: for every view and n; no condition. -/
import Derived.Test.YtfhfhljjhgdbiaaTeamC
import Derived.Test.YtfhfhljjhgdbiaaTeamQ
import Derived.Test.YtfhfhljjhgdbiaaFrame
namespace Go.Proofs.Ytfhfhljjhgdbiaa.lawTeamTurn
open Go.ChangeShapes Go.WideShapes Go.ChangeAt Go.RowKit
set_option linter.unusedVariables false

/-- the deciders of the first k views, together -/
def tk (view n : Int) : Nat → Nat
  | 0 => 0
  | k + 1 => withT (tk view n k) (decT (view + k) n)
theorem tk_lt (view n : Int) (k : Nat) : tk view n k < 128 := by
  induction k with
  | zero => exact show 0 < 128 by decide
  | succ k ih => exact withT_lt _ ih
theorem dec_pos {view n : Int} (hv : 1 ≤ view) (h3 : 3 ≤ n) (h7 : n ≤ 7) : decT view n = 1 + (view - 1) % n := by
  rw [decT, if_neg (by omega)]
theorem dec_rng {view n : Int} (hv : 1 ≤ view) (h3 : 3 ≤ n) (h7 : n ≤ 7) : 1 ≤ decT view n ∧ decT view n ≤ n := by
  rw [dec_pos hv h3 h7]
  have := Int.emod_nonneg (view - 1) (show n ≠ 0 by omega)
  have := Int.emod_lt_of_pos (view - 1) (show 0 < n by omega)
  omega
theorem tk_has {view n : Int} (hv : 1 ≤ view) (h3 : 3 ≤ n) (h7 : n ≤ 7) (k : Nat) (i : Int) : hasT (tk view n k) i = true ↔ ∃ j : Nat, j < k ∧ decT (view + j) n = i := by
  induction k with
  | zero => simp [tk, has_zero]
  | succ k ih =>
    have hr := dec_rng (show 1 ≤ view + (k : Int) by omega) h3 h7
    rw [tk, has_with, Bool.or_eq_true, Bool.and_eq_true, beq_iff_eq, ih]
    constructor
    · rintro (⟨j, hj, e⟩ | ⟨e, _⟩)
      · exact ⟨j, by omega, e⟩
      · exact ⟨k, by omega, e.symm⟩
    · rintro ⟨j, hj, e⟩
      by_cases hk : j = k
      · subst hk; exact .inr ⟨e.symm, isB_yes (by omega) (by omega)⟩
      · exact .inl ⟨j, by omega, e⟩
theorem mod_inj (a n : Int) (h3 : 3 ≤ n) (h7 : n ≤ 7) (j k : Nat) (hj : j < k) (hk : (k : Int) < n) : (a + j) % n ≠ (a + k) % n := by
  intro h
  have h1 := Int.emod_emod_of_dvd
  have : n ∣ (a + k) - (a + j) := Int.dvd_of_emod_eq_zero (Int.emod_eq_emod_iff_emod_sub_eq_zero.1 h.symm)
  obtain ⟨c, hc⟩ := this
  have : 0 < c := by
    by_cases h : 0 < c
    · exact h
    · have : n * c ≤ 0 := Int.mul_nonpos_of_nonneg_of_nonpos (by omega) (by omega)
      omega
  have : n * 1 ≤ n * c := Int.mul_le_mul_of_nonneg_left (by omega) (by omega)
  omega
theorem tk_new {view n : Int} (hv : 1 ≤ view) (h3 : 3 ≤ n) (h7 : n ≤ 7) (k : Nat) (hk : (k : Int) < n) : hasT (tk view n k) (decT (view + k) n) = false := by
  rw [← Bool.not_eq_true, tk_has hv h3 h7]
  rintro ⟨j, hj, e⟩
  rw [dec_pos (by omega) h3 h7, dec_pos (by omega) h3 h7] at e
  refine mod_inj (view - 1) n h3 h7 j k hj hk ?_
  rw [show view - 1 + (j : Int) = view + j - 1 by omega, show view - 1 + (k : Int) = view + k - 1 by omega]
  omega
theorem all_lt : ∀ n : Nat, n ≤ 7 → 2 ^ n - 1 < 128 := by decide
theorem all_has : ∀ n : Nat, n ≤ 7 → ∀ i : Nat, i < 8 → 1 ≤ i → hasT (2 ^ n - 1) (i : Int) = decide (i ≤ n) := by decide +kernel
theorem all_len : ∀ n : Nat, n ≤ 7 → lenT (2 ^ n - 1) = n := by decide +kernel
theorem tk_full {view : Int} {n : Nat} (hv : 1 ≤ view) (h3 : 3 ≤ n) (h7 : n ≤ 7) : tk view n n = 2 ^ n - 1 := by
  refine team_ext (tk_lt _ _ _) (all_lt n h7) fun i h1 hi => ?_
  obtain ⟨I, rfl⟩ := Int.eq_ofNat_of_zero_le (show 0 ≤ i by omega)
  rw [all_has n h7 I (by omega) (by omega), Bool.eq_iff_iff, tk_has hv (by omega) (by omega), decide_eq_true_iff]
  constructor
  · rintro ⟨j, hj, e⟩
    have := dec_rng (show 1 ≤ view + (j : Int) by omega) (show (3 : Int) ≤ (n : Int) by omega) (show (n : Int) ≤ 7 by omega)
    omega
  · intro hI
    have hn : (n : Int) ≠ 0 := by omega
    have b1 := Int.emod_nonneg ((I : Int) - view) hn
    have b2 := Int.emod_lt_of_pos ((I : Int) - view) (show (0 : Int) < n by omega)
    refine ⟨(((I : Int) - view) % n).toNat, by omega, ?_⟩
    rw [dec_pos (by omega) (by omega) (by omega), Int.toNat_of_nonneg b1]
    have : (view + ((I : Int) - view) % n - 1) % n = (I : Int) - 1 := by
      rw [show view + ((I : Int) - view) % n - 1 = ((I : Int) - view) % n + (view - 1) by omega, Int.emod_add_emod, show (I : Int) - view + (view - 1) = (I : Int) - 1 by omega]
      exact Int.emod_eq_of_lt (by omega) (by omega)
    omega
theorem most_all {n : Nat} (h3 : 3 ≤ n) (h7 : n ≤ 7) : mostT ((2 ^ n - 1 : Nat) : Int) (n : Int) = true := by
  have : ∀ n : Nat, n ≤ 7 → 3 ≤ n → mostT ((2 ^ n - 1 : Nat) : Int) (n : Int) = true := by decide +kernel
  exact this n h7 h3

set_option maxHeartbeats 1000000 in
theorem walk (view n : Int) (w : World) (hv : I64 view) (hn : I64 n) :
    Calls Try.prog 8 #[.int .i64 view, .int .i64 n] w fun e w' => e = .returned (.bool true) ∧ Below w.heap.size w w' := by
  obtain ⟨v0, v1⟩ := hv
  by_cases h3 : 3 ≤ n
  · by_cases h7 : n ≤ 7
    · by_cases hv1 : 1 ≤ view
      · by_cases hv2 : view ≤ 1099511627776
        · obtain ⟨N, rfl⟩ := Int.eq_ofNat_of_zero_le (show 0 ≤ n by omega)
          have HF := Lib.hid (tk_full hv1 (show 3 ≤ N by omega) (show N ≤ 7 by omega))
          have HL := Lib.hid (all_len N (by omega))
          have HM := Lib.hid (most_all (show 3 ≤ N by omega) (show N ≤ 7 by omega))
          have hlt := all_lt N (by omega)
          have HD := Lib.hid (show decT (view + N) N = decT view N by
            rw [dec_pos (by omega) h3 h7, dec_pos hv1 h3 h7, show view + (N : Int) - 1 = view - 1 + N by omega, Int.add_emod_right])
          go_enter Try.func8, Try.ntmps8
          go_wp2_with fail
          refine (b3_any _).mono ?_
          rintro e w1 ⟨rfl, hb1⟩
          go_wp2_with fail
          refine (of_any _ [] _ ⟨none, 0, rfl, by simp, by simp, fun h => by simp at h⟩).mono ?_
          rintro e w2 ⟨rfl, rfl⟩
          go_wp2
          go_loop [6, 7] (fun t i => ∃ k : Nat, k ≤ N ∧ i = .int .i64 k ∧ t = .int .i64 (tk view N k)) (fun _ i => N - (intOf i).toNat)
          case atStart => exact ⟨0, by omega, rfl, rfl⟩
          case round =>
            obtain ⟨k, hk, rfl, rfl⟩ := hrel
            have ht := tk_lt view N k
            by_cases hlt : k < N
            · have hd := dec_rng (show 1 ≤ view + (k : Int) by omega) h3 h7
              have hnew := tk_new hv1 h3 h7 k (by omega)
              obtain ⟨d1, d2⟩ := hd
              have HT := Lib.hid (show tk view N (k + 1) = withT (tk view N k) (decT (view + k) N) from rfl)
              go_wp2_with (first
                | (go_at_call 24; refine (decider_any _ _ _ (by omega) (by omega)).mono ?_; rintro e w' ⟨rfl, rfl⟩)
                | (go_at_call 13; refine (has_any _ _ _ (by omega)).mono ?_; rintro e w' ⟨rfl, rfl⟩)
                | (go_at_call 17; refine (with_any _ _ _ (by omega)).mono ?_; rintro e w' ⟨rfl, rfl⟩))
              go_round
              case rel => exact ⟨k + 1, by omega, by go_num, by rw [HT.out]⟩
              case measure => simp [intOf]; omega
            · obtain rfl : k = N := by omega
              rw [HF.out]
              have hm : (((2 ^ k - 1 : Nat)) : Int) % 128 = ((2 ^ k - 1 : Nat) : Int) := by omega
              obtain ⟨P, hP⟩ : ∃ P, P = 2 ^ k - 1 := ⟨_, rfl⟩
              have hl := HL.out
              have hmo := HM.out
              have hde := HD.out
              rw [← hP] at hm hl hmo ⊢
              clear hP
              go_wp2_with (first
                | (go_at_call 24; refine (decider_any _ _ _ (by omega) (by omega)).mono ?_; rintro e w' ⟨rfl, rfl⟩)
                | (go_at_call 15; refine (len_any _ _).mono ?_; rintro e w' ⟨rfl, rfl⟩)
                | (go_at_call 22; refine (most_any _ _ _).mono ?_; rintro e w' ⟨rfl, rfl⟩))
              go_ret
              exact ⟨ret_bool (by simp), hb1⟩
        · go_enter Try.func8, Try.ntmps8
          go_wp2_with fail
          refine (b3_any _).mono ?_
          rintro e w1 ⟨rfl, hb1⟩
          go_wp2
          go_ret
          exact ⟨rfl, hb1⟩
      · go_enter Try.func8, Try.ntmps8
        go_wp2_with fail
        refine (b3_any _).mono ?_
        rintro e w1 ⟨rfl, hb1⟩
        go_wp2
        go_ret
        exact ⟨rfl, hb1⟩
    · go_enter Try.func8, Try.ntmps8
      go_wp2_with fail
      refine (b3_any _).mono ?_
      rintro e w1 ⟨rfl, hb1⟩
      go_wp2
      go_ret
      exact ⟨rfl, hb1⟩
  · go_enter Try.func8, Try.ntmps8
    go_wp2_with fail
    refine (b3_any _).mono ?_
    rintro e w1 ⟨rfl, hb1⟩
    go_wp2
    go_ret
    exact ⟨rfl, hb1⟩

/-! the row's step, written out by law.py -/
set_option maxRecDepth 100000 in
theorem lifted (os : Os) (started : os.Started) (H : Type) (enc : TypeId × Value → H) :
    ReturnsInHanded {} Try.checked os 8 .any (Rows.teamTurnSpec.pre6 enc Try.prog Try.f8 Rows.teamTurnRow.domain false) (Rows.teamTurnSpec.post enc Try.prog Try.f8 false true false false) := by
  refine returnsInHanded_of_change (C := Try.checked) own started (by kernel_rfl) Try.func8
    (ChangeSpec.witness6 (enc := enc) (C := Try.checked) false ⟨#[], #[.int .i64 0, .int .i64 0], []⟩ 8 (by kernel_rfl) (by kernel_rfl) (by kernel_rfl) (by kernel_rfl)) ?_
  intro W base args ds gs before hval0 hW hcnd _
  have hval : ∀ (j : Nat) t v, Try.f8.params[j]? = some t → args[j]? = some v → Value.okWide Try.prog W .any base t v := hval0
  have hW' := hW
  obtain ⟨p, q, hA0, hV, rfl, hfz, hnd⟩ := hW
  have hA : DataW.TrodAll enc Try.prog W 0 (fun _ => true) true Try.f8.params.toList args.toList ds p := hA0
  rw [Try.params8] at hA hval
  obtain ⟨v0, vs0, d0, ds0, p0, q0, hargs, rfl, rfl, h0, r0⟩ := trodAll_cons hA
  obtain ⟨v1, vs1, d1, ds1, p1, q1, rfl, rfl, rfl, h1, r1⟩ := trodAll_cons r0
  obtain ⟨rfl, rfl, rfl⟩ := trodAll_nil r1
  obtain rfl : args = #[v0, v1] := by cases args; simp_all
  obtain ⟨rfl, rfl⟩ := trodVars_none hV
  have k0 := h0
  have lt0 : ∀ x ∈ p0, x.block < W.heap.size := by obtain ⟨m, hm⟩ := k0; exact DataW.trod_lt m _ _ _ hm
  have k1 := h1
  have lt1 : ∀ x ∈ p1, x.block < W.heap.size := by obtain ⟨m, hm⟩ := k1; exact DataW.trod_lt m _ _ _ hm
  obtain ⟨a0, rfl, rfl, rfl, w0⟩ := open_int Try.underlying2 (hval 0 2 v0 rfl rfl) h0
  have w0 := bounds_i64 w0
  obtain ⟨a1, rfl, rfl, rfl, w1⟩ := open_int Try.underlying3 (hval 1 3 v1 rfl rfl) h1
  have w1 := bounds_i64 w1
  clear hA0 hval0
  simp only [List.append_nil] at hW'
  refine (walk a0 a1 W w0 w1).mono fun e W' ⟨he, bel⟩ => ?_
  subst he
  exact ⟨_, rfl, _, _, _, [], _, [], hW', trodAll_mk1 (shut_bool Try.underlying4 _), (trodAll_cons_mk (Below.trod laidOut (by kernel_rfl) (of_decide_eq_true (by kernel_rfl)) k0 bel lt0) (trodAll_cons_mk (Below.trod laidOut (by kernel_rfl) (of_decide_eq_true (by kernel_rfl)) k1 bel lt1) trodAll_mk0)), rfl, bel.frame _, fun h => by cases h⟩

theorem over : Rows.teamTurnRow.holds Try.pinned (OpenSpec.ofChange Rows.teamTurnSpec) :=
  OpenClaim.holds_of_wide 8 Try.f8 rfl rfl rfl rfl rfl rfl rfl ⟨rfl, rfl, rfl, rfl, rfl⟩ rfl rfl rfl rfl rfl (by kernel_rfl) Try.func8 (by kernel_rfl)
    (of_decide_eq_true (by kernel_rfl)) (by unfold Func.isWrapper; first | (rw [if_pos (by decide +kernel)]; kernel_rfl) | (rw [if_neg (by decide +kernel)]; exact ⟨rfl, rfl⟩))
    (fun os started H enc _ => lifted os started H enc)

theorem proved : Rows.TeamTurnSaid := over
end Go.Proofs.Ytfhfhljjhgdbiaa.lawTeamTurn
