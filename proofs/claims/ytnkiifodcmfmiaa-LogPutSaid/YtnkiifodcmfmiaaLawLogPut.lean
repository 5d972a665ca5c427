/- What one log has behind a place is put behind the same front: for all lists, n and at; no condition. -/
import Derived.Test.YtnkiifodcmfmiaaBegun
import Derived.Test.YtnkiifodcmfmiaaPutQ
import Derived.Test.YtnkiifodcmfmiaaEntO
namespace Go.Proofs.Ytnkiifodcmfmiaa.lawLogPut
open Go.ChangeShapes Go.WideShapes Go.ChangeAt Go.RowKit
set_option linter.unusedVariables false

set_option maxHeartbeats 2000000 in
theorem walk (v : Value) (l : List Ent) (n t : Int) (w : World) (hr : rdE w v l) (hd : ∀ e ∈ l, e.data.size ≤ 9223372036854775807) (hn : I64 n) (ht : I64 t) :
    Calls Try.prog 4 #[v, .int .i64 n, .int .i64 t] w fun e w' => e = .returned (.bool true) ∧ Below w.heap.size w w' := by
  clear hn
  obtain ⟨ht0, ht1⟩ := ht
  replace hr := Lib.hid hr
  replace hd := Lib.hid hd
  go_enter Try.func4, Try.ntmps4
  go_wp2_with fail
  refine (b13_any _).mono ?_
  rintro e w1 ⟨rfl, hb1⟩
  go_wp2_with fail
  refine (entries12_any _ l 20 _ (hr.out.grow hb1) hd.out (by omega) (by omega)).mono ?_
  rintro e w2 ⟨x1, rfl, ho1, hb2⟩
  have hB2 := hb1.trans (hb2.mono hb1.size)
  clear hb1 hb2 hd hr
  go_wp2_with fail
  refine (r12Log_any _ _ _ ho1.rd).mono ?_
  rintro e w3 ⟨x2, rfl, ho2, hb3⟩
  have hB3 := hB2.trans (hb3.mono hB2.size)
  clear ho1 hb3 hB2
  have hgo : good (logE (mapCut l (min (Int.toNat 20) l.length))) := good_logE _
  have h60 := logE_len (mapCut l (min (Int.toNat 20) l.length))
  generalize logE (mapCut l _) = W at ho2 hgo h60
  have R := Lib.hid ho2.rd
  replace ho2 := Lib.hid ho2
  replace hgo := Lib.hid hgo
  obtain ⟨a2, c2, rfl, hm, hM, _⟩ := R.out
  unfold maxLen at hM
  by_cases h0 : n < 0
  · go_wp2
    go_ret
    exact ⟨rfl, hB3⟩
  by_cases h1 : (W.length : Int) < n
  · go_wp2
    go_ret
    exact ⟨rfl, hB3⟩
  by_cases h2 : t < 0
  · go_wp2
    go_ret
    exact ⟨rfl, hB3⟩
  obtain ⟨N, rfl⟩ : ∃ N : Nat, n = N := ⟨n.toNat, by omega⟩
  obtain ⟨K, rfl⟩ : ∃ K : Nat, t = K := ⟨t.toNat, by omega⟩
  have hN : N ≤ W.length := by omega
  have hNc : N ≤ c2 := by omega
  have hT := Lib.hid (rdE_take R.out N hN)
  have hlE := logE_take hgo.out N hN
  have hNl : (W.take N).length = N := by simp; omega
  replace hlE := Lib.hid hlE
  replace hNl := Lib.hid hNl
  go_wp2_with fail
  refine (logNew_any _ (W.take N) _ (by simpa using hT.out)).mono ?_
  rintro r w4 ⟨b, rfl, hbb, hlg, hb4⟩
  rw [hlE.out] at hlg
  have hlg1 := hlg.mono (G := fun k => w3.heap.size ≤ k) fun k hk => hk.1
  clear hlg hbb
  replace hlg1 := Lib.hid hlg1
  by_cases h3 : W.length < K
  · have d3 : decide ((W.length : Int) < (K : Int)) = true := by simp <;> omega
    have hP := logPut_bad b (.slice none 0 0) (W.take N) [] (K : Int) w4 hlg1.out.rd (rdE_nil _ _ _ (by decide)) (.inr (by rw [hNl.out]; omega))
    replace hP := Lib.hid hP
    go_wp2_with fail
    refine hP.out.mono ?_
    rintro r w5 ⟨rfl, hb5⟩
    have hB4 := hB3.trans (hb4.mono hB3.size)
    have hB5 := hB4.trans (hb5.mono hB4.size)
    go_wp2
    go_ret
    exact ⟨rfl, hB5⟩
  have hKW : K ≤ W.length := by omega
  have hKc : K ≤ c2 := by omega
  obtain ⟨q, hq⟩ : ∃ q, q = decide (K ≤ N) := ⟨_, rfl⟩
  replace hq := Lib.hid hq
  have HP : ∀ X, rdE w4 X (W.drop K) → Calls Try.prog 18 #[.pointer (some ⟨b, 0, none⟩), .int .i64 (K : Int), X] w4 fun r w' =>
      r = .returned (.bool q) ∧ rdLog w' b (if K ≤ N then W else W.take N) ∧ Below w3.heap.size w3 w' := by
    intro X hX
    by_cases hK : K ≤ N
    · refine (logPut_in b X (W.take N) (W.drop K) K _ _ w4 hlg1.out hX (by rw [hNl.out]; exact hK) (by rw [hNl.out]; omega) rfl).mono ?_
      rintro r w5 ⟨rfl, hl5, hc5⟩
      rw [put_whole hgo.out hK hN] at hl5 ⊢
      rw [if_pos hK, hq.out, decide_eq_true hK]
      exact ⟨rfl, hl5.rd, hb4.trans (hc5.below hb4.size fun k hk => hk)⟩
    · refine (logPut_bad b X (W.take N) (W.drop K) (K : Int) w4 hlg1.out.rd hX (.inr (by rw [hNl.out]; omega))).mono ?_
      rintro r w5 ⟨rfl, hb5⟩
      rw [if_neg hK, hq.out, decide_eq_false hK]
      exact ⟨rfl, hlg1.out.rd.grow hb5, hb4.trans (hb5.mono hb4.size)⟩
  have d3 : decide ((W.length : Int) < (K : Int)) = false := by simp <;> omega
  have R4 := Lib.hid (R.out.grow hb4)
  replace HP := Lib.hid HP
  obtain ⟨M, hM2⟩ : ∃ M, M = if K ≤ N then W else W.take N := ⟨_, rfl⟩
  rw [← hM2] at HP
  replace hM2 := Lib.hid hM2
  go_upto_region 10 with (fail)
  go_cut [10] (fun s wx => s = .bool q ∧ rdLog wx b M ∧ Below w3.heap.size w3 wx)
  case first =>
    by_cases hlt : K < W.length
    · obtain ⟨_, _, he, _, _, ha⟩ := R4.out
      injection he with he1 he2 he3
      subst he1 he3
      obtain ⟨bl, off, rfl, _⟩ := ha (by omega)
      have hX := HP.out _ (rdE_drop R4.out K hlt)
      have hne : ¬ c2 = K := by omega
      replace hX := Lib.hid hX
      clear ha
      go_wp2_with fail
      refine hX.out.mono ?_
      rintro r w5 ⟨rfl, h1, h2⟩
      go_wp2_with fail
      go_meet
      exact ⟨rfl, h1, h2⟩
    · obtain rfl : K = W.length := by omega
      have hdl : W.drop W.length = [] := List.drop_length
      rw [hdl] at HP
      have HE : ∀ X c n, n = (W.length : Int) → c ≤ 9223372036854775807 → Calls Try.prog 18 #[.pointer (some ⟨b, 0, none⟩), .int .i64 n, .slice X 0 c] w4 fun r w' =>
          r = .returned (.bool q) ∧ rdLog w' b M ∧ Below w3.heap.size w3 w' := fun X c n hn hc => by rw [hn]; exact HP.out _ (rdE_nil _ _ _ (by unfold maxLen; omega))
      replace HE := Lib.hid HE
      rcases ho2.out.2 with ⟨hnil, hl0⟩ | ⟨g, cp, cur, hvg, _⟩
      · injection hnil with q1 q2 q3
        subst q1 q3
        obtain rfl : W = [] := List.length_eq_zero_iff.1 q2
        clear q2
        go_wp2_with fail
        refine (HE.out _ _ _ (by omega) (by omega)).mono ?_
        rintro r w5 ⟨rfl, h1, h2⟩
        go_wp2_with fail
        go_meet
        exact ⟨rfl, h1, h2⟩
      · injection hvg with q1 q2 q3
        subst q1 q3
        by_cases hne : c2 = W.length
        · subst hne
          go_wp2_with fail
          refine (HE.out _ _ _ (by omega) (by omega)).mono ?_
          rintro r w5 ⟨rfl, h1, h2⟩
          go_wp2_with fail
          go_meet
          exact ⟨rfl, h1, h2⟩
        · go_wp2_with fail
          refine (HE.out _ _ _ (by omega) (by omega)).mono ?_
          rintro r w5 ⟨rfl, h1, h2⟩
          go_wp2_with fail
          go_meet
          exact ⟨rfl, h1, h2⟩
  case rest =>
    obtain ⟨rfl, hl5, hb5⟩ := hcut
    have hB5 := hB3.trans (hb5.mono hB3.size)
    have R5 := Lib.hid (R.out.grow hb5)
    by_cases hK : K ≤ N
    · have hMW : M = W := by rw [hM2.out, if_pos hK]
      rw [hMW] at hl5
      have d5 : decide ((N : Int) < (K : Int)) = false := by simp <;> omega
      have d6 : q = true := by rw [hq.out]; exact decide_eq_true hK
      subst d6
      replace hl5 := Lib.hid hl5
      clear hMW hM2
      go_wp2_with fail
      refine (same13_yes b _ W _ hl5.out R5.out h60).mono ?_
      rintro r w6 ⟨rfl, hb6⟩
      have hB6 := hB5.trans (hb6.mono hB5.size)
      go_wp2
      go_ret
      exact ⟨rfl, hB6⟩
    · have hMW : M = W.take N := by rw [hM2.out, if_neg hK]
      rw [hMW] at hl5
      have d5 : decide ((N : Int) < (K : Int)) = true := by simp <;> omega
      have d6 : q = false := by rw [hq.out]; exact decide_eq_false hK
      subst d6
      have hT5 := Lib.hid (rdE_take R5.out N hN)
      replace hl5 := Lib.hid hl5
      clear hMW hM2
      go_wp2_with fail
      refine (same13_yes b _ (W.take N) _ hl5.out hT5.out (by rw [hNl.out]; omega)).mono ?_
      rintro r w6 ⟨rfl, hb6⟩
      have hB6 := hB5.trans (hb6.mono hB5.size)
      go_wp2
      go_ret
      exact ⟨rfl, hB6⟩

/-! the row's step, written out by law.py -/
set_option maxRecDepth 100000 in
theorem lifted (os : Os) (started : os.Started) (H : Type) (enc : TypeId × Value → H) :
    ReturnsInHanded {} Try.checked os 4 .any (Rows.logPutSpec.pre6 enc Try.prog Try.f4 Rows.logPutRow.domain false) (Rows.logPutSpec.post enc Try.prog Try.f4 false true false false) := by
  refine returnsInHanded_of_change (C := Try.checked) own started (by kernel_rfl) Try.func4
    (ChangeSpec.witness6 (enc := enc) (C := Try.checked) false ⟨#[], #[.slice none 0 0, .int .i64 0, .int .i64 0], []⟩ 8 (by kernel_rfl) (by kernel_rfl) (by kernel_rfl) (by kernel_rfl)) ?_
  intro W base args ds gs before hval0 hW hcnd _
  have hval : ∀ (j : Nat) t v, Try.f4.params[j]? = some t → args[j]? = some v → Value.okWide Try.prog W .any base t v := hval0
  have hW' := hW
  obtain ⟨p, q, hA0, hV, rfl, hfz, hnd⟩ := hW
  have hA : DataW.TrodAll enc Try.prog W 0 (fun _ => true) true Try.f4.params.toList args.toList ds p := hA0
  rw [Try.params4] at hA hval
  obtain ⟨v0, vs0, d0, ds0, p0, q0, hargs, rfl, rfl, h0, r0⟩ := trodAll_cons hA
  obtain ⟨v1, vs1, d1, ds1, p1, q1, rfl, rfl, rfl, h1, r1⟩ := trodAll_cons r0
  obtain ⟨v2, vs2, d2, ds2, p2, q2, rfl, rfl, rfl, h2, r2⟩ := trodAll_cons r1
  obtain ⟨rfl, rfl, rfl⟩ := trodAll_nil r2
  obtain rfl : args = #[v0, v1, v2] := by cases args; simp_all
  obtain ⟨rfl, rfl⟩ := trodVars_none hV
  have k0 := h0
  have lt0 : ∀ x ∈ p0, x.block < W.heap.size := by obtain ⟨m, hm⟩ := k0; exact DataW.trod_lt m _ _ _ hm
  have k1 := h1
  have lt1 : ∀ x ∈ p1, x.block < W.heap.size := by obtain ⟨m, hm⟩ := k1; exact DataW.trod_lt m _ _ _ hm
  have k2 := h2
  have lt2 : ∀ x ∈ p2, x.block < W.heap.size := by obtain ⟨m, hm⟩ := k2; exact DataW.trod_lt m _ _ _ hm
  obtain ⟨l0, w0, b0⟩ := slentry_open (hval 0 22 v0 rfl rfl) h0
  obtain ⟨a1, rfl, rfl, rfl, w1⟩ := open_int Try.underlying3 (hval 1 3 v1 rfl rfl) h1
  have w1 := bounds_i64 w1
  obtain ⟨a2, rfl, rfl, rfl, w2⟩ := open_int Try.underlying3 (hval 2 3 v2 rfl rfl) h2
  have w2 := bounds_i64 w2
  clear hA0 hval0
  simp only [List.append_nil] at hW'
  refine (walk v0 l0 a1 a2 W w0 b0 w1 w2).mono fun e W' ⟨he, bel⟩ => ?_
  subst he
  exact ⟨_, rfl, _, _, _, [], _, [], hW', trodAll_mk1 (shut_bool Try.underlying4 _), (trodAll_cons_mk (Below.trod laidOut (by kernel_rfl) (of_decide_eq_true (by kernel_rfl)) k0 bel lt0) (trodAll_cons_mk (Below.trod laidOut (by kernel_rfl) (of_decide_eq_true (by kernel_rfl)) k1 bel lt1) (trodAll_cons_mk (Below.trod laidOut (by kernel_rfl) (of_decide_eq_true (by kernel_rfl)) k2 bel lt2) trodAll_mk0))), rfl, bel.frame _, fun h => by cases h⟩

theorem over : Rows.logPutRow.holds Try.pinned (OpenSpec.ofChange Rows.logPutSpec) :=
  OpenClaim.holds_of_wide 4 Try.f4 rfl rfl rfl rfl rfl rfl rfl ⟨rfl, rfl, rfl, rfl, rfl⟩ rfl rfl rfl rfl rfl (by kernel_rfl) Try.func4 (by kernel_rfl)
    (of_decide_eq_true (by kernel_rfl)) (by unfold Func.isWrapper; first | (rw [if_pos (by decide +kernel)]; kernel_rfl) | (rw [if_neg (by decide +kernel)]; exact ⟨rfl, rfl⟩))
    (fun os started H enc _ => lifted os started H enc)

theorem proved : Rows.LogPutSaid := over
end Go.Proofs.Ytnkiifodcmfmiaa.lawLogPut
