/- All others are asked, with the start's number: for all numbers; no condition. -/
import Derived.Test.YtacchkmdheglaaaJnE
import Derived.Test.YtacchkmdheglaaaFrame
namespace Go.Proofs.Ytacchkmdheglaaa.lawJoinAsk
open Go.ChangeShapes Go.WideShapes Go.ChangeAt Go.RowKit
set_option linter.unusedVariables false

set_option maxRecDepth 100000 in
set_option maxHeartbeats 8000000 in
theorem walk (me n boot promise : Int) (w : World) (h1 : I64 me) (h2 : I64 n) (h3 : I64 boot) (h4 : I64 promise) :
    Calls Try.prog 3 #[.int .i64 me, .int .i64 n, .int .i64 boot, .int .i64 promise] w fun e w' => e = .returned (.bool true) ∧ Below w.heap.size w w' := by
  go_enter Try.func3, Try.ntmps3
  go_wp2_with fail
  refine (b24_any _).mono ?_
  rintro e w1 ⟨rfl, hb1⟩
  clear h1 h2 h3 h4
  by_cases c1 : n < 3
  · go_wp2
    go_ret
    exact ⟨rfl, hb1⟩
  by_cases c2 : 7 < n
  · go_wp2
    go_ret
    exact ⟨rfl, hb1⟩
  by_cases c3 : me < 1
  · go_wp2
    go_ret
    exact ⟨rfl, hb1⟩
  by_cases c4 : n < me
  · go_wp2
    go_ret
    exact ⟨rfl, hb1⟩
  by_cases c5 : boot < 1
  · go_wp2
    go_ret
    exact ⟨rfl, hb1⟩
  by_cases c6 : 1099511627776 < boot
  · go_wp2
    go_ret
    exact ⟨rfl, hb1⟩
  by_cases c7 : promise < 0
  · go_wp2
    go_ret
    exact ⟨rfl, hb1⟩
  by_cases c8 : 1099511627776 < promise
  · go_wp2
    go_ret
    exact ⟨rfl, hb1⟩
  replace hb1 := Lib.hid hb1
  go_wp2_with fail
  refine (jNew_ok me n boot promise _ (by omega) (by omega) (by omega) (by omega) (by omega) (by omega) (by omega) (by omega)).mono ?_
  rintro r w2 ⟨rfl, hj2, hb2⟩
  have hB2 := Lib.hid (hb1.out.trans (hb2.mono hb1.out.size))
  clear hb2 hb1
  go_wp2_with fail
  refine (jAsk_any _ me n boot promise mg0 false _ hj2 (by omega) (by omega) (by omega)).mono ?_
  rintro r w3 ⟨v, rfl, ho3, hb3⟩
  have hB3 := Lib.hid (hB2.out.trans (hb3.mono hB2.out.size))
  obtain ⟨N, rfl⟩ : ∃ N : Nat, n = N := ⟨n.toNat, by omega⟩
  rw [Int.toNat_natCast] at ho3
  have hN : askN me N = N - 1 := by unfold askN; rw [if_neg (by omega)]
  rw [hN] at ho3
  have hr := ho3.rd
  have hlen := asks_len me boot (N - 1)
  have hget := fun k h => asks_get me boot (N - 1) k h
  generalize asks me boot (N - 1) = L at hr hlen hget
  clear ho3 hb3 hj2 hB2 hN
  obtain ⟨a, cap, rfl, hm, hM, ha⟩ := hr
  have hlN : (L.length : Int) = (N : Int) - 1 := by omega
  replace hlen := Lib.hid hlen
  replace hget := Lib.hid hget
  replace ha := Lib.hid ha
  unfold maxLen at hM
  have d0 : ((L.length : Int) == (N : Int) - 1) = true := by simpa using hlN
  have d1 : ((L.length : Int) != (N : Int) - 1) = false := by simp [hlN]
  replace hlN := Lib.hid hlN
  go_wp2
  clear d0 d1
  go_loopw [11, 12] (fun t i wr => ∃ k : Nat, k ≤ L.length ∧ i = .int .i64 k ∧ t = .int .i64 (if (k : Int) + 1 ≤ me then (k : Int) + 1 else (k : Int) + 2) ∧ Below w3.heap.size w3 wr) (fun _ i _ => L.length - (intOf i).toNat)
  case atStart => exact ⟨0, Nat.zero_le _, rfl, by rw [if_pos (by omega)]; rfl, Below.refl _ _⟩
  case round =>
    obtain ⟨k, hk, rfl, rfl, hbel⟩ := hrel
    by_cases hlt : k < L.length
    · obtain ⟨g, off, rfl, hc⟩ := ha.out (by omega)
      have hck := cM.grow _ _ _ _ _ (hc k hlt) hbel
      rw [hget.out k hlt] at hck
      have hk7 : k < 7 := by have := hlN.out; omega
      clear hc
      have hBr := hB3.out.trans (hbel.mono hB3.out.size)
      replace hBr := Lib.hid hBr
      rcases Int.lt_trichotomy ((k : Int) + 1) me with hl | hl | hl
      · rw [if_pos hl] at hck
        rw [if_pos (by omega)]
        have d : ((k : Int) + 1 == me) = false := by simp; omega
        obtain ⟨e0, e1, e2, e3, e4, e5, e6, e7, e8, e9, e10, e11, e12⟩ := hck
        simp only [askM] at e0 e1 e2 e3 e4 e5 e6 e7 e8 e9 e10 e11 e12
        replace hbel := Lib.hid hbel
        go_wp2_with fail
        refine (r12EqMsg_same ⟨10, me, (k : Int) + 1, boot, 0, 0, 0, 0, 0, boot, 0, false⟩ _).mono ?_
        rintro r w5 ⟨rfl, hb5⟩
        have hb6 := Lib.hid (hbel.out.trans (hb5.mono hbel.out.size))
        clear e0 e1 e2 e3 e4 e5 e6 e7 e8 e9 e10 e11 e12 hb5
        go_wp2
        go_roundw
        case rel => exact ⟨k + 1, by omega, by go_num, by rw [if_pos (by omega)]; go_num, hb6.out⟩
        case measure => simp [intOf]; omega
      · rw [if_neg (by omega)] at hck
        rw [if_pos (by omega)]
        subst hl
        obtain ⟨e0, e1, e2, e3, e4, e5, e6, e7, e8, e9, e10, e11, e12⟩ := hck
        simp only [askM, Int.natCast_add, Int.natCast_one] at e0 e1 e2 e3 e4 e5 e6 e7 e8 e9 e10 e11 e12
        replace hbel := Lib.hid hbel
        go_wp2_with fail
        refine (r12EqMsg_same ⟨10, (k : Int) + 1, (k : Int) + 1 + 1, boot, 0, 0, 0, 0, 0, boot, 0, false⟩ _).mono ?_
        rintro r w5 ⟨rfl, hb5⟩
        have hb6 := Lib.hid (hbel.out.trans (hb5.mono hbel.out.size))
        clear e0 e1 e2 e3 e4 e5 e6 e7 e8 e9 e10 e11 e12 hb5
        go_wp2
        go_roundw
        case rel => exact ⟨k + 1, by omega, by go_num, by rw [if_neg (by omega)]; go_num, hb6.out⟩
        case measure => simp [intOf]; omega
      · rw [if_neg (by omega)] at hck
        rw [if_neg (by omega)]
        have d : ((k : Int) + 2 == me) = false := by simp; omega
        obtain ⟨e0, e1, e2, e3, e4, e5, e6, e7, e8, e9, e10, e11, e12⟩ := hck
        have e2' := e2
        simp only [askM] at e0 e1 e2 e3 e4 e5 e6 e7 e8 e9 e10 e11 e12
        rw [show (((k + 1 : Nat) : Int) + 1) = (k : Int) + 2 by omega] at e2
        clear e2'
        replace hbel := Lib.hid hbel
        go_wp2_with fail
        refine (r12EqMsg_same ⟨10, me, (k : Int) + 2, boot, 0, 0, 0, 0, 0, boot, 0, false⟩ _).mono ?_
        rintro r w5 ⟨rfl, hb5⟩
        have hb6 := Lib.hid (hbel.out.trans (hb5.mono hbel.out.size))
        clear e0 e1 e2 e3 e4 e5 e6 e7 e8 e9 e10 e11 e12 hb5
        go_wp2
        go_roundw
        case rel => exact ⟨k + 1, by omega, by go_num, by rw [if_neg (by omega)]; go_num, hb6.out⟩
        case measure => simp [intOf]; omega
    · have hBr := hB3.out.trans (hbel.mono hB3.out.size)
      generalize (if (k : Int) + 1 ≤ me then (k : Int) + 1 else (k : Int) + 2) = t0
      go_wp2
      go_ret
      exact ⟨rfl, hBr⟩

/-! the row's step, written out by law.py -/
set_option maxRecDepth 100000 in
theorem lifted (os : Os) (started : os.Started) (H : Type) (enc : TypeId × Value → H) :
    ReturnsInHanded {} Try.checked os 3 .any (Rows.joinAskSpec.pre6 enc Try.prog Try.f3 Rows.joinAskRow.domain false) (Rows.joinAskSpec.post enc Try.prog Try.f3 false true false false) := by
  refine returnsInHanded_of_change (C := Try.checked) own started (by kernel_rfl) Try.func3
    (ChangeSpec.witness6 (enc := enc) (C := Try.checked) false ⟨#[], #[.int .i64 0, .int .i64 0, .int .i64 0, .int .i64 0], []⟩ 8 (by kernel_rfl) (by kernel_rfl) (by kernel_rfl) (by kernel_rfl)) ?_
  intro W base args ds gs before hval0 hW hcnd _
  have hval : ∀ (j : Nat) t v, Try.f3.params[j]? = some t → args[j]? = some v → Value.okWide Try.prog W .any base t v := hval0
  have hW' := hW
  obtain ⟨p, q, hA0, hV, rfl, hfz, hnd⟩ := hW
  have hA : DataW.TrodAll enc Try.prog W 0 (fun _ => true) true Try.f3.params.toList args.toList ds p := hA0
  rw [Try.params3] at hA hval
  obtain ⟨v0, vs0, d0, ds0, p0, q0, hargs, rfl, rfl, h0, r0⟩ := trodAll_cons hA
  obtain ⟨v1, vs1, d1, ds1, p1, q1, rfl, rfl, rfl, h1, r1⟩ := trodAll_cons r0
  obtain ⟨v2, vs2, d2, ds2, p2, q2, rfl, rfl, rfl, h2, r2⟩ := trodAll_cons r1
  obtain ⟨v3, vs3, d3, ds3, p3, q3, rfl, rfl, rfl, h3, r3⟩ := trodAll_cons r2
  obtain ⟨rfl, rfl, rfl⟩ := trodAll_nil r3
  obtain rfl : args = #[v0, v1, v2, v3] := by cases args; simp_all
  obtain ⟨rfl, rfl⟩ := trodVars_none hV
  have k0 := h0
  have lt0 : ∀ x ∈ p0, x.block < W.heap.size := by obtain ⟨m, hm⟩ := k0; exact DataW.trod_lt m _ _ _ hm
  have k1 := h1
  have lt1 : ∀ x ∈ p1, x.block < W.heap.size := by obtain ⟨m, hm⟩ := k1; exact DataW.trod_lt m _ _ _ hm
  have k2 := h2
  have lt2 : ∀ x ∈ p2, x.block < W.heap.size := by obtain ⟨m, hm⟩ := k2; exact DataW.trod_lt m _ _ _ hm
  have k3 := h3
  have lt3 : ∀ x ∈ p3, x.block < W.heap.size := by obtain ⟨m, hm⟩ := k3; exact DataW.trod_lt m _ _ _ hm
  obtain ⟨a0, rfl, rfl, rfl, w0⟩ := open_int Try.underlying3 (hval 0 3 v0 rfl rfl) h0
  have w0 := bounds_i64 w0
  obtain ⟨a1, rfl, rfl, rfl, w1⟩ := open_int Try.underlying3 (hval 1 3 v1 rfl rfl) h1
  have w1 := bounds_i64 w1
  obtain ⟨a2, rfl, rfl, rfl, w2⟩ := open_int Try.underlying2 (hval 2 2 v2 rfl rfl) h2
  have w2 := bounds_i64 w2
  obtain ⟨a3, rfl, rfl, rfl, w3⟩ := open_int Try.underlying2 (hval 3 2 v3 rfl rfl) h3
  have w3 := bounds_i64 w3
  clear hA0 hval0
  simp only [List.append_nil] at hW'
  refine (walk a0 a1 a2 a3 W w0 w1 w2 w3).mono fun e W' ⟨he, bel⟩ => ?_
  subst he
  exact ⟨_, rfl, _, _, _, [], _, [], hW', trodAll_mk1 (shut_bool Try.underlying4 _), (trodAll_cons_mk (Below.trod laidOut (by kernel_rfl) (of_decide_eq_true (by kernel_rfl)) k0 bel lt0) (trodAll_cons_mk (Below.trod laidOut (by kernel_rfl) (of_decide_eq_true (by kernel_rfl)) k1 bel lt1) (trodAll_cons_mk (Below.trod laidOut (by kernel_rfl) (of_decide_eq_true (by kernel_rfl)) k2 bel lt2) (trodAll_cons_mk (Below.trod laidOut (by kernel_rfl) (of_decide_eq_true (by kernel_rfl)) k3 bel lt3) trodAll_mk0)))), rfl, bel.frame _, fun h => by cases h⟩

theorem over : Rows.joinAskRow.holds Try.pinned (OpenSpec.ofChange Rows.joinAskSpec) :=
  OpenClaim.holds_of_wide 3 Try.f3 rfl rfl rfl rfl rfl rfl rfl ⟨rfl, rfl, rfl, rfl, rfl⟩ rfl rfl rfl rfl rfl (by kernel_rfl) Try.func3 (by kernel_rfl)
    (of_decide_eq_true (by kernel_rfl)) (by unfold Func.isWrapper; first | (rw [if_pos (by decide +kernel)]; kernel_rfl) | (rw [if_neg (by decide +kernel)]; exact ⟨rfl, rfl⟩))
    (fun os started H enc _ => lifted os started H enc)

theorem proved : Rows.JoinAskSaid := over
end Go.Proofs.Ytacchkmdheglaaa.lawJoinAsk
