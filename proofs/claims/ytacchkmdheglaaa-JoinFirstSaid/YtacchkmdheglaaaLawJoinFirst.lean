/- Of words that may be taken the first one is, and it stays: for all numbers; no condition. -/
import Derived.Test.YtacchkmdheglaaaJnE
import Derived.Test.YtacchkmdheglaaaFrame
import Derived.Test.YtacchkmdheglaaaTeamR
import Derived.Laws.BitsLemmas
namespace Go.Proofs.Ytacchkmdheglaaa.lawJoinFirst
open Go.ChangeShapes Go.WideShapes Go.ChangeAt Go.RowKit
set_option linter.unusedVariables false

theorem and1023 (x : Int) : bits .and .i64 x 1023 = x % 1024 := by
  have h15 : (BitVec.ofInt 64 1023) = 1023#64 := by decide
  have h1 : ((BitVec.ofInt 64 x) &&& (1023#64)).toNat = (x % 18446744073709551616).toNat % 1024 := by
    rw [BitVec.toNat_and, BitVec.toNat_ofNat, show (1023 % 2 ^ 64) = 2 ^ 10 - 1 from rfl, Nat.and_two_pow_sub_one_eq_mod]
    rfl
  show IntKind.i64.wrap (((BitVec.ofInt 64 x) &&& (BitVec.ofInt 64 1023)).toNat : Int) = x % 1024
  rw [h15, h1, IntKind.wrap_i64]
  omega

theorem team_n : ∀ n : Nat, n < 8 → 3 ≤ n → mostT ((2 : Int) ^ n - 1) n = true ∧ ∀ p : Nat, p < 8 → 1 ≤ p → p ≤ n → hasT ((2 : Int) ^ n - 1).toNat p = true := by decide +kernel
theorem dec_range {v n : Int} (hv : 1 ≤ v) (h3 : 3 ≤ n) (h7 : n ≤ 7) : 1 ≤ decT v n ∧ decT v n ≤ n := by
  rw [decT, if_neg (by omega)]
  have h1 := Int.emod_nonneg (v - 1) (show n ≠ 0 by omega)
  have h2 := Int.emod_lt_of_pos (v - 1) (show 0 < n by omega)
  omega
theorem word_ok {v n boot p : Int} (hv : 1 ≤ v) (hv2 : v ≤ 9223372036854775807) (h3 : 3 ≤ n) (h7 : n ≤ 7) (hp : decT v n = p) : mayOk ⟨11, p, n, 1, v, 0, 2 ^ n.toNat - 1, 0, 0, boot, 0, true⟩ n n boot := by
  obtain ⟨N, rfl⟩ : ∃ N : Nat, n = N := ⟨n.toNat, by omega⟩
  obtain ⟨h1, h2⟩ := dec_range hv h3 h7
  rw [hp] at h1 h2
  obtain ⟨P, rfl⟩ : ∃ P : Nat, p = P := ⟨p.toNat, by omega⟩
  have hle := pow_n_le h3 h7
  have hpos : (0 : Int) < 2 ^ N := Int.pow_pos (by decide)
  obtain ⟨t1, t2⟩ := team_n N (by omega) (by omega)
  rw [Int.toNat_natCast] at *
  exact ⟨rfl, rfl, rfl, rfl, hp.symm, hv, hv2, ⟨by show 0 ≤ (2 : Int) ^ N - 1; omega, by show (2 : Int) ^ N - 1 < 128; omega⟩, t1, t2 P (by omega) (by omega) (by omega), rfl⟩

set_option maxRecDepth 100000 in
set_option maxHeartbeats 8000000 in
theorem walk (n boot promise : Int) (v : Value) (l : List Int) (w : World) (h1 : I64 n) (h2 : I64 boot) (h3 : I64 promise) (hr : rdI w v l) (hl : ∀ x ∈ l, I64 x) :
    Calls Try.prog 5 #[.int .i64 n, .int .i64 boot, .int .i64 promise, v] w fun e w' => e = .returned (.bool true) ∧ Below w.heap.size w w' := by
  obtain ⟨a, cap, rfl, hm, hM, ha⟩ := hr
  unfold maxLen at hM
  replace ha := Lib.hid ha
  replace hl := Lib.hid hl
  go_enter Try.func5, Try.ntmps5
  go_wp2_with fail
  refine (b24_any _).mono ?_
  rintro e w1 ⟨rfl, hb1⟩
  clear h1 h2 h3
  by_cases c1 : n < 3
  · go_wp2
    go_ret
    exact ⟨rfl, hb1⟩
  by_cases c2 : 7 < n
  · go_wp2
    go_ret
    exact ⟨rfl, hb1⟩
  by_cases c5 : boot < 1
  · go_wp2
    go_ret
    exact ⟨rfl, hb1⟩
  by_cases c6 : 1000 < boot
  · go_wp2
    go_ret
    exact ⟨rfl, hb1⟩
  by_cases c7 : promise < 0
  · go_wp2
    go_ret
    exact ⟨rfl, hb1⟩
  by_cases c8 : 1000 < promise
  · go_wp2
    go_ret
    exact ⟨rfl, hb1⟩
  replace hb1 := Lib.hid hb1
  go_wp2_with fail
  refine (jNew_ok n n boot promise _ (by omega) (by omega) (by omega) (by omega) (by omega) (by omega) (by omega) (by omega)).mono ?_
  rintro r w2 ⟨rfl, hj2, hb2⟩
  have hB2 := Lib.hid (hb1.out.trans (hb2.mono hb1.out.size))
  obtain ⟨b, hb⟩ : ∃ b, b = w1.heap.size := ⟨_, rfl⟩
  rw [← hb] at hj2 ⊢
  have hbw : w.heap.size ≤ b := by have := hb1.out.size; omega
  replace hb := Lib.hid hb
  replace hj2 := Lib.hid hj2
  clear hb2 hb1
  have hp := pow_n (show 3 ≤ n by omega) (show n ≤ 7 by omega)
  have hple := pow_n_le (show 3 ≤ n by omega) (show n ≤ 7 by omega)
  have hpos : (0 : Int) < 2 ^ n.toNat := Int.pow_pos (by decide)
  go_wp2
  go_loopw [11, 12] (fun g i wr => ∃ (k : Nat) (m : Mg) (got : Bool) (gv : Int), k ≤ l.length ∧ k ≤ 20 ∧ i = .int .i64 k ∧ g = .int .i64 gv ∧ jnO wr b n n boot promise m got ∧ (got = true → 1 ≤ gv ∧ m.view = gv) ∧ (got = false → gv = 0) ∧ Below w.heap.size w wr) (fun _ i _ => l.length - (intOf i).toNat)
  case atStart => exact ⟨0, mg0, false, 0, Nat.zero_le _, Nat.zero_le _, rfl, rfl, hj2.out, fun h => (by cases h), fun _ => rfl, hB2.out⟩
  case round =>
    obtain ⟨k, m, got, gv, hk, hk20, rfl, rfl, hj, hg1, hg2, hbel⟩ := hrel
    clear hj2 hB2
    by_cases hlt : k < l.length
    · by_cases hlt20 : k < 20
      · obtain ⟨g, off, rfl, hc⟩ := ha.out (by omega)
        have hck := hbel.cell (p := ⟨g, off + k, none⟩) (cell_lt (hc k hlt))
        rw [hc k hlt] at hck
        have hI := hl.out _ (List.getElem_mem hlt)
        clear hc
        generalize l[k] = x at hck hI
        obtain ⟨hI1, hI2⟩ := hI
        have hax := and1023 x
        obtain ⟨V, hV⟩ : ∃ V, V = 1 + x % 1024 := ⟨_, rfl⟩
        have hV1 : 1 ≤ V ∧ V ≤ 1024 := by omega
        have hx0 : 0 ≤ x % 1024 ∧ x % 1024 < 1024 := by omega
        replace hj := Lib.hid hj
        replace hbel := Lib.hid hbel
        replace hg1 := Lib.hid hg1
        replace hg2 := Lib.hid hg2
        go_wp2_with fail
        rw [← hV]
        clear hV hax hx0 hck hI1 hI2
        refine (rdecider_any V n _ (by omega) (by omega)).mono ?_
        rintro r w3 ⟨rfl, rfl⟩
        obtain ⟨p, hp0⟩ : ∃ p, decT V n = p := ⟨_, rfl⟩
        rw [hp0]
        replace hp0 := Lib.hid hp0
        by_cases hpn : p = n
        · subst hpn
          go_wp2
          go_roundw
          case rel => exact ⟨k + 1, m, got, gv, by omega, by omega, by go_num, rfl, hj.out, hg1.out, hg2.out, hbel.out⟩
          case measure => simp [intOf]; omega
        have d : (p == n) = false := by simpa using hpn
        have hok : mayOk ⟨11, p, n, 1, V, 0, 2 ^ n.toNat - 1, 0, 0, boot, 0, true⟩ n n boot := word_ok hV1.1 (by omega) (by omega) (by omega) hp0.out
        replace hok := Lib.hid hok
        have hB4 := hbel.out.alloc hbel.out.size (Mg.box ⟨11, p, n, 1, V, 0, 2 ^ n.toNat - 1, 0, 0, boot, 0, true⟩ 30)
        have hj4 := hj.out.below ((Below.refl wr.heap.size wr).alloc (Nat.le_refl _) (Mg.box ⟨11, p, n, 1, V, 0, 2 ^ n.toNat - 1, 0, 0, boot, 0, true⟩ 30))
        replace hB4 := Lib.hid hB4
        replace hj4 := Lib.hid hj4
        cases got
        · have hgv := hg2.out rfl
          subst hgv
          by_cases hpv : promise ≤ V
          · have d2 : decide (promise ≤ V) = true := by simpa using hpv
            go_wp2_with fail
            refine (jHear_any b n n boot promise m ⟨11, p, n, 1, V, 0, 2 ^ n.toNat - 1, 0, 0, boot, 0, true⟩ _ hj4.out hok.out).mono ?_
            rintro r w5 ⟨rfl, h5, _⟩
            obtain ⟨hj5, hc5⟩ := h5 hpv
            rw [d2]
            have hB5 := Lib.hid (hB4.out.trans (hc5.below hB4.out.size fun k hk => by have : k = b := hk; omega))
            replace hj5 := Lib.hid hj5
            clear hc5 h5 hj4 hB4
            have hpH := Lib.hid hpv
            clear hpv d2
            go_wp2_with fail
            refine (jGot_any b n n boot promise ⟨11, p, n, 1, V, 0, 2 ^ n.toNat - 1, 0, 0, boot, 0, true⟩ true _ hj5.out).mono ?_
            rintro r w6 ⟨rfl, hb6⟩
            have hb7 := hb6.alloc hb6.size (Mg.box ⟨11, p, n, 1, V, 0, 2 ^ n.toNat - 1, 0, 0, boot, 0, true⟩ 30)
            have hj7 := Lib.hid (hj5.out.below hb7)
            have hB7 := Lib.hid (hB5.out.trans (hb7.mono hB5.out.size))
            clear hb6 hb7 hj5 hB5
            have hVp : 0 < V := by omega
            go_wp2
            go_roundw
            case rel => exact ⟨k + 1, ⟨11, p, n, 1, V, 0, 2 ^ n.toNat - 1, 0, 0, boot, 0, true⟩, true, V, by omega, by omega, by go_num, rfl, hj7.out, fun _ => ⟨by omega, rfl⟩, fun h => (by cases h), hB7.out⟩
            case measure => simp [intOf]; omega
          · have d2 : decide (promise ≤ V) = false := by simpa using hpv
            go_wp2_with fail
            refine (jHear_any b n n boot promise m ⟨11, p, n, 1, V, 0, 2 ^ n.toNat - 1, 0, 0, boot, 0, true⟩ _ hj4.out hok.out).mono ?_
            rintro r w5 ⟨rfl, _, h5⟩
            replace h5 := h5 (by show V < promise; omega)
            rw [d2]
            have hB5 := Lib.hid (hB4.out.trans (h5.mono hB4.out.size))
            have hj5 := Lib.hid (hj4.out.below h5)
            clear h5 hj4 hB4
            have hpH := Lib.hid hpv
            clear hpv d2
            go_wp2_with fail
            refine (jGot_any b n n boot promise m false _ hj5.out).mono ?_
            rintro r w6 ⟨rfl, hb6⟩
            have hb7 := hb6.alloc hb6.size (m.box 30)
            have hj7 := Lib.hid (hj5.out.below hb7)
            have hB7 := Lib.hid (hB5.out.trans (hb7.mono hB5.out.size))
            clear hb6 hb7 hj5 hB5
            go_wp2
            go_roundw
            case rel => exact ⟨k + 1, m, false, 0, by omega, by omega, by go_num, rfl, hj7.out, fun h => (by cases h), fun _ => rfl, hB7.out⟩
            case measure => simp [intOf]; omega
        · obtain ⟨hgv, hmv⟩ := hg1.out rfl
          subst hmv
          have d3 : (m.view == 0) = false := by simp; omega
          go_wp2_with fail
          refine (jHear_got b n n boot promise m ⟨11, p, n, 1, V, 0, 2 ^ n.toNat - 1, 0, 0, boot, 0, true⟩ _ hj4.out).mono ?_
          rintro r w5 ⟨rfl, h5⟩
          have hB5 := Lib.hid (hB4.out.trans (h5.mono hB4.out.size))
          have hj5 := Lib.hid (hj4.out.below h5)
          clear h5 hj4 hB4
          go_wp2_with fail
          refine (jGot_any b n n boot promise m true _ hj5.out).mono ?_
          rintro r w6 ⟨rfl, hb6⟩
          have hb7 := hb6.alloc hb6.size (m.box 30)
          have hj7 := Lib.hid (hj5.out.below hb7)
          have hB7 := Lib.hid (hB5.out.trans (hb7.mono hB5.out.size))
          clear hb6 hb7 hj5 hB5
          have hVp : 0 < m.view := by omega
          go_wp2
          go_roundw
          case rel => exact ⟨k + 1, m, true, m.view, by omega, by omega, by go_num, rfl, hj7.out, fun _ => ⟨by omega, rfl⟩, fun h => (by cases h), hB7.out⟩
          case measure => simp [intOf]; omega
      · go_wp2
        go_ret
        exact ⟨rfl, hbel⟩
    · go_wp2
      go_ret
      exact ⟨rfl, hbel⟩

/-! the row's step, written out by law.py -/
set_option maxRecDepth 100000 in
theorem lifted (os : Os) (started : os.Started) (H : Type) (enc : TypeId × Value → H) :
    ReturnsInHanded {} Try.checked os 5 .any (Rows.joinFirstSpec.pre6 enc Try.prog Try.f5 Rows.joinFirstRow.domain false) (Rows.joinFirstSpec.post enc Try.prog Try.f5 false true false false) := by
  refine returnsInHanded_of_change (C := Try.checked) own started (by kernel_rfl) Try.func5
    (ChangeSpec.witness6 (enc := enc) (C := Try.checked) false ⟨#[], #[.int .i64 0, .int .i64 0, .int .i64 0, .slice none 0 0], []⟩ 8 (by kernel_rfl) (by kernel_rfl) (by kernel_rfl) (by kernel_rfl)) ?_
  intro W base args ds gs before hval0 hW hcnd _
  have hval : ∀ (j : Nat) t v, Try.f5.params[j]? = some t → args[j]? = some v → Value.okWide Try.prog W .any base t v := hval0
  have hW' := hW
  obtain ⟨p, q, hA0, hV, rfl, hfz, hnd⟩ := hW
  have hA : DataW.TrodAll enc Try.prog W 0 (fun _ => true) true Try.f5.params.toList args.toList ds p := hA0
  rw [Try.params5] at hA hval
  obtain ⟨v0, vs0, d0, ds0, p0, q0, hargs, rfl, rfl, h0, r0⟩ := trodAll_cons hA
  obtain ⟨v1, vs1, d1, ds1, p1, q1, rfl, rfl, rfl, h1, r1⟩ := trodAll_cons r0
  obtain ⟨v2, vs2, d2, ds2, p2, q2, rfl, rfl, rfl, h2, r2⟩ := trodAll_cons r1
  obtain ⟨v3, vs3, d3, ds3, p3, q3, rfl, rfl, rfl, h3, r3⟩ := trodAll_cons r2
  obtain ⟨rfl, rfl, rfl⟩ := trodAll_nil r3
  obtain rfl : args = #[v0, v1, v2, v3] := by cases args; simp_all
  obtain ⟨rfl, rfl⟩ := trodVars_none hV
  have k0 := h0
  have lt0 : ∀ x ∈ p0, x.block < W.heap.size := by obtain ⟨m, hm⟩ := k0; exact DataW.trod_lt m _ _ _ hm
  have k1 := h1
  have lt1 : ∀ x ∈ p1, x.block < W.heap.size := by obtain ⟨m, hm⟩ := k1; exact DataW.trod_lt m _ _ _ hm
  have k2 := h2
  have lt2 : ∀ x ∈ p2, x.block < W.heap.size := by obtain ⟨m, hm⟩ := k2; exact DataW.trod_lt m _ _ _ hm
  have k3 := h3
  have lt3 : ∀ x ∈ p3, x.block < W.heap.size := by obtain ⟨m, hm⟩ := k3; exact DataW.trod_lt m _ _ _ hm
  obtain ⟨a0, rfl, rfl, rfl, w0⟩ := open_int Try.underlying3 (hval 0 3 v0 rfl rfl) h0
  have w0 := bounds_i64 w0
  obtain ⟨a1, rfl, rfl, rfl, w1⟩ := open_int Try.underlying2 (hval 1 2 v1 rfl rfl) h1
  have w1 := bounds_i64 w1
  obtain ⟨a2, rfl, rfl, rfl, w2⟩ := open_int Try.underlying2 (hval 2 2 v2 rfl rfl) h2
  have w2 := bounds_i64 w2
  obtain ⟨l3, w3, b3⟩ := rdI_open Try.underlying35 Try.underlying2 (by kernel_rfl) (hval 3 35 v3 rfl rfl) h3
  clear hA0 hval0
  simp only [List.append_nil] at hW'
  refine (walk a0 a1 a2 v3 l3 W w0 w1 w2 w3 b3).mono fun e W' ⟨he, bel⟩ => ?_
  subst he
  exact ⟨_, rfl, _, _, _, [], _, [], hW', trodAll_mk1 (shut_bool Try.underlying4 _), (trodAll_cons_mk (Below.trod laidOut (by kernel_rfl) (of_decide_eq_true (by kernel_rfl)) k0 bel lt0) (trodAll_cons_mk (Below.trod laidOut (by kernel_rfl) (of_decide_eq_true (by kernel_rfl)) k1 bel lt1) (trodAll_cons_mk (Below.trod laidOut (by kernel_rfl) (of_decide_eq_true (by kernel_rfl)) k2 bel lt2) (trodAll_cons_mk (Below.trod laidOut (by kernel_rfl) (of_decide_eq_true (by kernel_rfl)) k3 bel lt3) trodAll_mk0)))), rfl, bel.frame _, fun h => by cases h⟩

theorem over : Rows.joinFirstRow.holds Try.pinned (OpenSpec.ofChange Rows.joinFirstSpec) :=
  OpenClaim.holds_of_wide 5 Try.f5 rfl rfl rfl rfl rfl rfl rfl ⟨rfl, rfl, rfl, rfl, rfl⟩ rfl rfl rfl rfl rfl (by kernel_rfl) Try.func5 (by kernel_rfl)
    (of_decide_eq_true (by kernel_rfl)) (by unfold Func.isWrapper; first | (rw [if_pos (by decide +kernel)]; kernel_rfl) | (rw [if_neg (by decide +kernel)]; exact ⟨rfl, rfl⟩))
    (fun os started H enc _ => lifted os started H enc)

theorem proved : Rows.JoinFirstSaid := over
end Go.Proofs.Ytacchkmdheglaaa.lawJoinFirst
