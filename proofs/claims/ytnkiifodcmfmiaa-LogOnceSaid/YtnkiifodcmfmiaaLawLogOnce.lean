/- No broadcast stands twice in a log, and stamps never fall: for all lists; no condition. -/
import Derived.Test.YtnkiifodcmfmiaaBegun
import Derived.Test.YtnkiifodcmfmiaaPutQ
import Derived.Test.YtnkiifodcmfmiaaEntO
namespace Go.Proofs.Ytnkiifodcmfmiaa.lawLogOnce
open Go.ChangeShapes Go.WideShapes Go.ChangeAt Go.RowKit
set_option linter.unusedVariables false

theorem good_may {W : List Ent} (h : good W) {i : Nat} (hi : i < W.length) : mayE W[i] = true := by
  have := h i hi
  simp [okAdd] at this
  exact this.1.1.1
theorem good_same {W : List Ent} (h : good W) {k i : Nat} (hk : k < i) (hi : i < W.length) : sameE W[i] (W[k]'(by omega)) = false := by
  have := h i hi
  simp [okAdd] at this
  have hn := this.1.1.2
  unfold hasE at hn
  rw [List.any_eq_false] at hn
  have := hn (W[k]'(by omega)) (by rw [List.mem_take_iff_getElem]; exact ⟨k, by omega, rfl⟩)
  have hc : sameE W[i] (W[k]'(by omega)) = sameE (W[k]'(by omega)) W[i] := by
    unfold sameE
    congr 1
    · congr 1
      · exact Bool.beq_comm
      · exact Bool.beq_comm
    · exact Bool.beq_comm
  rw [hc]
  simpa using this
theorem good_late {W : List Ent} (h : good W) {k : Nat} (hi : k + 1 < W.length) : decide ((W[k + 1]).stamp < (W[k]'(by omega)).stamp) = false := by
  have := h (k + 1) hi
  simp [okAdd] at this
  have hl := this.2
  have hlen : (W.take (k + 1)).length = k + 1 := by simp; omega
  rw [lateE_last hlen] at hl
  simpa using hl

set_option maxHeartbeats 2000000 in
theorem walk (v : Value) (l : List Ent) (w : World) (hr : rdE w v l) (hd : ∀ e ∈ l, e.data.size ≤ 9223372036854775807) :
    Calls Try.prog 9 #[v] w fun e w' => e = .returned (.bool true) ∧ Below w.heap.size w w' := by
  replace hr := Lib.hid hr
  replace hd := Lib.hid hd
  go_enter Try.func9, Try.ntmps9
  go_wp2_with fail
  refine (b13_any _).mono ?_
  rintro e w1 ⟨rfl, hb1⟩
  go_wp2_with fail
  refine (entries12_any _ l 40 _ (hr.out.grow hb1) hd.out (by omega) (by omega)).mono ?_
  rintro e w2 ⟨x1, rfl, ho1, hb2⟩
  have hB2 := hb1.trans (hb2.mono hb1.size)
  clear hb1 hb2 hd hr
  generalize mapCut l _ = A at ho1
  have R1 := Lib.hid ho1.rd
  clear ho1
  go_wp2_with fail
  refine (logNew_any _ A _ R1.out).mono ?_
  rintro r w3 ⟨b, rfl, hbb, hlg, hb3⟩
  have hB3 := hB2.trans (hb3.mono hB2.size)
  have hgo : Hid (good (logE A)) := Lib.hid (good_logE A)
  have h60 := logE_len A
  have hrl := Lib.hid hlg.rd
  have R3 := Lib.hid (R1.out.grow hb3)
  clear hB2 hb3 R1 hlg hbb
  obtain ⟨W, hWA⟩ : ∃ W, W = logE A := ⟨_, rfl⟩
  rw [← hWA] at hgo h60 hrl
  replace hWA := Lib.hid hWA
  have hf0 : Hid (fromE W 0 = W) := Lib.hid (by simp [fromE])
  go_wp2_with fail
  refine (logFrom_any b W 0 _ hrl.out (by omega)).mono ?_
  rintro r w4 ⟨x2, rfl, ho4, hb4⟩
  rw [hf0.out] at ho4
  have hB4 := Lib.hid (hB3.trans (hb4.mono hB3.size))
  have R4 := Lib.hid (R3.out.grow hb4)
  have Q4 := Lib.hid ho4.rd
  clear hB3 hb4 R3 ho4 hrl hf0
  obtain ⟨a2, c2, rfl, hm, hM, ha⟩ := Q4.out
  unfold maxLen at hM
  replace ha := Lib.hid ha
  go_wp2
  go_loopw [5] (fun i wr => ∃ k : Nat, k ≤ W.length ∧ i = .int .i64 k ∧ Below w4.heap.size w4 wr) (fun i _ => W.length - (intOf i).toNat)
  case atStart => exact ⟨0, Nat.zero_le _, rfl, Below.refl _ _⟩
  case round =>
    obtain ⟨i, hi, rfl, hbel⟩ := hrel
    by_cases hlt : i < W.length
    · obtain ⟨bl, off, rfl, hc⟩ := ha.out (by omega)
      have hci := hc i hlt
      have hmay := good_may hgo.out hlt
      have hlti : (i : Int) < W.length := by omega
      go_wp2
      go_loopw [6] (fun j wr => ∃ k : Nat, k ≤ i ∧ j = .int .i64 k ∧ Below w4.heap.size w4 wr) (fun j _ => i - (intOf j).toNat)
      case atStart => exact ⟨0, Nat.zero_le _, rfl, hbel⟩
      case round =>
        obtain ⟨k, hk, rfl, hbk⟩ := hrel
        by_cases hlk : k < i
        · have hsm := good_same hgo.out hlk hlt
          have hck := hc k (by omega)
          replace hc := Lib.hid hc
          generalize W[i] = X at hci hsm hmay
          generalize W[k] = Y at hck hsm
          obtain ⟨e0, e1, e2, e3, e4, e5, e6⟩ := cellsE_up (hci.below hbk hci.lt)
          obtain ⟨f0, f1, f2, f3, f4, f5, f6⟩ := cellsE_up (hck.below hbk hck.lt)
          have HS : Hid (∀ x, Calls Try.prog 26 #[X.val, Y.val] (upTo wr x) fun r w' => r = .returned (.bool false) ∧ ∃ y, w' = upTo wr y) := Lib.hid fun x => by
            rw [← hsm]; exact call_up (rsame_any X Y (upTo wr x))
          clear hsm hmay
          have hbk2 := Lib.hid hbk
          clear hbk
          go_upto_region 12 with (fail)
          refine wp_region_up (by kernel_rfl) (by kernel_rfl) ?_
          repeat (go_big_quiet_step ((go_at_call 26; exact HS.out _)))
          refine wpQuiet_nil ?_
          intro w5 hw5
          have hb5 := hbk2.out.trans ((up_below hw5).mono hbk2.out.size)
          clear hw5
          go_wp2_with fail
          go_roundw
          case rel => exact ⟨k + 1, by omega, by go_num, hb5⟩
          case measure => simp [intOf]; omega
        · obtain rfl : k = i := by omega
          generalize hX : W[k] = X at hci hmay
          have hc0 := hci.below hbk hci.lt
          obtain ⟨e0, e1, e2, e3, e4, e5, e6⟩ := cellsE_up hc0
          have HM : Hid (∀ x, Calls Try.prog 27 #[X.val] (upTo wr x) fun r w' => r = .returned (.bool true) ∧ ∃ y, w' = upTo wr y) := Lib.hid fun x => by
            rw [← hmay]; exact call_up (rmay12_any X (upTo wr x))
          have hbk2 := Lib.hid hbk
          clear hbel hmay
          by_cases hk0 : 0 < k
          · have hla := good_late hgo.out (k := k - 1) (by omega)
            have hcy := hc (k - 1) (by omega)
            have h1 : IntKind.i64.wrap ((k : Int) - 1) = ((k - 1 : Nat) : Int) := by
              rw [IntWalk.i64_in _ (by omega)]; omega
            have d0 : decide ((0 : Int) < (k : Int)) = true := by simp; omega
            have hla2 : Hid (decide (X.stamp < (W[k - 1]'(by omega)).stamp) = false) := Lib.hid (by
              rw [← hX, ← hla]; congr 3; simp only [Nat.sub_add_cancel hk0])
            replace h1 := Lib.hid h1
            clear hX hla
            generalize W[k - 1] = Y at hcy hla2
            have hcy0 := hcy.below hbk hcy.lt
            obtain ⟨f0, f1, f2, f3, f4, f5, f6⟩ := cellsE_up hcy0
            clear hcy hcy0 hc hbk
            go_upto_region 14 with (fail)
            have d1 := hla2.out
            have h1 := h1.out
            refine wp_region_up (by kernel_rfl) (by kernel_rfl) ?_
            repeat (go_big_quiet_step ((go_at_call 27; exact HM.out _)))
            refine wpQuiet_nil ?_
            intro w5 hw5
            have hb5 := hbk2.out.trans ((up_below hw5).mono hbk2.out.size)
            clear hw5 h1
            go_wp2_with fail
            go_roundw
            case rel => exact ⟨k + 1, by omega, by go_num, hb5⟩
            case measure => simp [intOf]; omega
          · have d0 : decide ((0 : Int) < (k : Int)) = false := by simp; omega
            clear hX hc hbk
            go_upto_region 14 with (fail)
            refine wp_region_up (by kernel_rfl) (by kernel_rfl) ?_
            repeat (go_big_quiet_step ((go_at_call 27; exact HM.out _)))
            refine wpQuiet_nil ?_
            intro w5 hw5
            have hb5 := hbk2.out.trans ((up_below hw5).mono hbk2.out.size)
            clear hw5
            go_wp2_with fail
            go_roundw
            case rel => exact ⟨k + 1, by omega, by go_num, hb5⟩
            case measure => simp [intOf]; omega
    · obtain rfl : i = W.length := by omega
      have hE : Hid (eqAll W (logE A) = true) := Lib.hid (by rw [← hWA.out]; exact eqAll_refl W)
      have hQ := Lib.hid (Q4.out.grow hbel)
      have hRR := Lib.hid (R4.out.grow hbel)
      have hB5 := Lib.hid (hB4.out.trans (hbel.mono hB4.out.size))
      clear hbel
      go_wp2_with fail
      refine (r12Log_any _ A _ hRR.out).mono ?_
      rintro r w5 ⟨x5, rfl, ho5, hb5⟩
      have hQ5 := Lib.hid (hQ.out.grow hb5)
      have hB6 := Lib.hid (hB5.out.trans (hb5.mono hB5.out.size))
      have ho6 := Lib.hid ho5.rd
      clear hb5 ho5
      go_wp2_with fail
      refine (r12EqAll_any _ _ W (logE A) _ hQ5.out ho6.out).mono ?_
      rintro r w6 ⟨rfl, hb6⟩
      rw [hE.out]
      have hB7 := hB6.out.trans (hb6.mono hB6.out.size)
      go_wp2
      go_ret
      exact ⟨rfl, hB7⟩

/-! the row's step, written out by law.py -/
set_option maxRecDepth 100000 in
theorem lifted (os : Os) (started : os.Started) (H : Type) (enc : TypeId × Value → H) :
    ReturnsInHanded {} Try.checked os 9 .any (Rows.logOnceSpec.pre6 enc Try.prog Try.f9 Rows.logOnceRow.domain false) (Rows.logOnceSpec.post enc Try.prog Try.f9 false true false false) := by
  refine returnsInHanded_of_change (C := Try.checked) own started (by kernel_rfl) Try.func9
    (ChangeSpec.witness6 (enc := enc) (C := Try.checked) false ⟨#[], #[.slice none 0 0], []⟩ 8 (by kernel_rfl) (by kernel_rfl) (by kernel_rfl) (by kernel_rfl)) ?_
  intro W base args ds gs before hval0 hW hcnd _
  have hval : ∀ (j : Nat) t v, Try.f9.params[j]? = some t → args[j]? = some v → Value.okWide Try.prog W .any base t v := hval0
  have hW' := hW
  obtain ⟨p, q, hA0, hV, rfl, hfz, hnd⟩ := hW
  have hA : DataW.TrodAll enc Try.prog W 0 (fun _ => true) true Try.f9.params.toList args.toList ds p := hA0
  rw [Try.params9] at hA hval
  obtain ⟨v0, vs0, d0, ds0, p0, q0, hargs, rfl, rfl, h0, r0⟩ := trodAll_cons hA
  obtain ⟨rfl, rfl, rfl⟩ := trodAll_nil r0
  obtain rfl : args = #[v0] := by cases args; simp_all
  obtain ⟨rfl, rfl⟩ := trodVars_none hV
  have k0 := h0
  have lt0 : ∀ x ∈ p0, x.block < W.heap.size := by obtain ⟨m, hm⟩ := k0; exact DataW.trod_lt m _ _ _ hm
  obtain ⟨l0, w0, b0⟩ := slentry_open (hval 0 22 v0 rfl rfl) h0
  clear hA0 hval0
  simp only [List.append_nil] at hW'
  refine (walk v0 l0 W w0 b0).mono fun e W' ⟨he, bel⟩ => ?_
  subst he
  exact ⟨_, rfl, _, _, _, [], _, [], hW', trodAll_mk1 (shut_bool Try.underlying4 _), (trodAll_cons_mk (Below.trod laidOut (by kernel_rfl) (of_decide_eq_true (by kernel_rfl)) k0 bel lt0) trodAll_mk0), rfl, bel.frame _, fun h => by cases h⟩

theorem over : Rows.logOnceRow.holds Try.pinned (OpenSpec.ofChange Rows.logOnceSpec) :=
  OpenClaim.holds_of_wide 9 Try.f9 rfl rfl rfl rfl rfl rfl rfl ⟨rfl, rfl, rfl, rfl, rfl⟩ rfl rfl rfl rfl rfl (by kernel_rfl) Try.func9 (by kernel_rfl)
    (of_decide_eq_true (by kernel_rfl)) (by unfold Func.isWrapper; first | (rw [if_pos (by decide +kernel)]; kernel_rfl) | (rw [if_neg (by decide +kernel)]; exact ⟨rfl, rfl⟩))
    (fun os started H enc _ => lifted os started H enc)

theorem proved : Rows.LogOnceSaid := over
end Go.Proofs.Ytnkiifodcmfmiaa.lawLogOnce
