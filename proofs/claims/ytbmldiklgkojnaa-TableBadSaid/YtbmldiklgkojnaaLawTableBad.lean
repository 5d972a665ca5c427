/- What is no word, or no entry, changes nothing. -/
import Derived.Test.YtbmldiklgkojnaaTbG
namespace Go.Proofs.Ytbmldiklgkojnaa.lawTableBad
open Go.ChangeShapes Go.WideShapes Go.ChangeAt Go.RowKit
open Go.ChangeMaps (open_string shut_string)
set_option linter.unusedVariables false

abbrev sB : ByteArray := ⟨#[98]⟩
theorem bad_1 : okDo (entW 1 ⟨#[97, 61, 98]⟩) = true ∧ nextT [] (entW 1 ⟨#[97, 61, 98]⟩) = [(sA, sB)] := by
  have h := next_yes (L := []) (e := entW 1 ⟨#[97, 61, 98]⟩) (a := sA) (b := sB) rfl (by decide) (by decide) (may_W (by decide) (by decide) (by decide))
  exact ⟨h.1, h.2.trans (do_one _ _ (by decide))⟩
theorem may_any (f b : Int) (s : ByteArray) (hs : s.size ≤ 16) : mayE ⟨f, b, 1, 0, 0, 0, s⟩ = (decide (1 ≤ f) && decide (f ≤ 7) && decide (1 ≤ b) && decide (b ≤ 1099511627776)) := by
  rw [mayE_in]
  unfold inB
  have : decide ((s.size : Int) ≤ 16) = true := by simp; omega
  rw [this]
  simp [Bool.and_assoc]

set_option maxRecDepth 100000 in
set_option maxHeartbeats 8000000 in
theorem walk (m : Int) (data : ByteArray) (f b : Int) (w : World) (hm : w.cell? ⟨0, 0, none⟩ = some (.int .i64 m)) (hd : data.size ≤ maxLen) (hf : I64 f) (hb : I64 b) :
    Calls Try.prog 7 #[.string data, .int .i64 f, .int .i64 b] w fun e w' => e = .returned (.bool true) ∧ Below w.heap.size w w' := by
  have hmH := Lib.hid hm
  have h0 := cell_lt hm
  unfold maxLen at hd
  clear hm
  replace hf := Lib.hid hf
  replace hb := Lib.hid hb
  go_enter Try.func7, Try.ntmps7
  go_wp2_with fail
  refine (b15_any m _ hmH.out).mono ?_
  rintro r w1 ⟨rfl, hb1⟩
  have hB := Lib.hid hb1
  have hm1 := Lib.hid (cell_bel hmH.out hb1)
  clear hb1
  go_upto_if 20 with (fail)
  go_cut [0] (fun s wx => ∃ t, s = .string t ∧ t.size ≤ 16 ∧ wx = w1)
  case first =>
    by_cases h16 : 16 < data.size
    · go_wp2_with fail
      go_meet
      exact ⟨_, rfl, by simp <;> omega, rfl⟩
    · go_wp2_with fail
      go_meet
      exact ⟨_, rfl, by omega, rfl⟩
  case rest =>
    obtain ⟨s, rfl, hs, rfl⟩ := hcut
    go_wp2_with fail
    refine (tNew_any _).mono ?_
    rintro r w2 ⟨q, tb, rfl, hT, hq, htb, hb2⟩
    have hm2 := cell_bel hm1.out hb2
    have hsz := hB.out.size
    replace hB := Lib.hid (hB.out.trans (hb2.mono hsz))
    clear hb2
    replace hT := Lib.hid hT
    go_wp2_with fail
    refine (tDo_any q tb [] (entW 1 ⟨#[97, 61, 98]⟩) m _ hT.out (by simp) hm2 (by decide)).mono ?_
    rintro r w3 ⟨rfl, hT3, hc3⟩
    rw [bad_1.2] at hT3
    have hm3 := cell_chg hm2 hc3 (show ¬ (0 = tb) by omega)
    replace hB := Lib.hid (hB.out.trans (hc3.below hB.out.size (fun k hk => by omega)))
    replace hT3 := Lib.hid hT3
    clear hc3 hT hm2
    go_wp2_with fail
    refine (tSum_any q tb _ _ hT3.out (by simp)).mono ?_
    rintro r w4 ⟨rfl, hb4⟩
    have hT4 := Lib.hid (hT3.out.grow hb4)
    have hm4 := cell_bel hm3 hb4
    replace hB := Lib.hid (hB.out.trans (hb4.mono hB.out.size))
    clear hb4 hT3 hm3
    obtain ⟨c, hc⟩ : ∃ c, crcT (bytesT [(sA, sB)]) = c := ⟨_, rfl⟩
    rw [hc]
    replace hc := Lib.hid hc
    go_wp2_with fail
    refine (tWord_any s m _ (by omega) hm4).mono ?_
    rintro r w5 ⟨rfl, hb5⟩
    have hT5 := Lib.hid (hT4.out.grow hb5)
    have hm5 := cell_bel hm4 hb5
    replace hB := Lib.hid (hB.out.trans (hb5.mono hB.out.size))
    clear hb5 hT4 hm4
    have hok : okDo ⟨f, b, 1, 0, 0, 0, s⟩ = ((wordT s).2.2 && (decide (1 ≤ f) && decide (f ≤ 7) && decide (1 ≤ b) && decide (b ≤ 1099511627776))) := by
      unfold okDo
      rw [may_any f b s hs]
    have hD := tDo_any q tb [(sA, sB)] ⟨f, b, 1, 0, 0, 0, s⟩ m w5 hT5.out (by simp) hm5 (by dsimp only; omega)
    have hlen := next_len [(sA, sB)] ⟨f, b, 1, 0, 0, 0, s⟩
    have hno := fun h => next_no (L := [(sA, sB)]) (e := ⟨f, b, 1, 0, 0, 0, s⟩) h
    obtain ⟨ok, hokk⟩ : ∃ x, okDo ⟨f, b, 1, 0, 0, 0, s⟩ = x := ⟨_, rfl⟩
    rw [hokk] at hok hD hno
    generalize nextT [(sA, sB)] ⟨f, b, 1, 0, 0, 0, s⟩ = L at hlen hno hD
    generalize (wordT s).1 = x1
    generalize (wordT s).2.1 = x2
    generalize (wordT s).2.2 = k at hok ⊢
    clear hokk hT5
    replace hok := Lib.hid hok
    replace hno := Lib.hid hno
    replace hD := Lib.hid hD
    simp only [Ent.val] at hD
    go_upto_region 10 with (fail)
    go_cut [13] (fun t wx => t = .bool ok ∧ wx = w5)
    case first =>
      cases k with
      | false =>
        go_wp2_with fail
        go_meet
        exact ⟨by rw [hok.out]; rfl, rfl⟩
      | true =>
        by_cases g1 : 1 ≤ f
        · have g1' : f ≥ 1 := g1
          by_cases g2 : f ≤ 7
          · by_cases g3 : 1 ≤ b
            · have g3' : b ≥ 1 := g3
              by_cases g4 : b ≤ 1099511627776
              · go_wp2_with fail
                go_meet
                exact ⟨by rw [hok.out]; simp [g1, g2, g3, g4], rfl⟩
              · go_wp2_with fail
                go_meet
                exact ⟨by rw [hok.out]; simp [g4] <;> omega, rfl⟩
            · have g3' : ¬ b ≥ 1 := g3
              go_wp2_with fail
              go_meet
              exact ⟨by rw [hok.out]; simp [g3] <;> omega, rfl⟩
          · go_wp2_with fail
            go_meet
            exact ⟨by rw [hok.out]; simp [g2] <;> omega, rfl⟩
        · have g1' : ¬ f ≥ 1 := g1
          go_wp2_with fail
          go_meet
          exact ⟨by rw [hok.out]; simp [g1] <;> omega, rfl⟩
    case rest =>
      obtain ⟨rfl, rfl⟩ := hcut
      go_wp2_with fail
      refine (hD.out).mono ?_
      rintro r w6 ⟨rfl, hT6, hc6⟩
      replace hB := Lib.hid (hB.out.trans (hc6.below hB.out.size (fun k hk => by omega)))
      clear hc6 hm5
      replace hT6 := Lib.hid hT6
      cases ok with
      | true =>
        go_wp2
        go_ret
        exact ⟨rfl, hB.out⟩
      | false =>
        rw [hno.out rfl] at hT6
        go_wp2_with fail
        refine (tSum_any q tb _ _ hT6.out (by simp)).mono ?_
        rintro r w7 ⟨rfl, hb7⟩
        rw [hc.out]
        replace hB := Lib.hid (hB.out.trans (hb7.mono hB.out.size))
        clear hb7
        go_wp2
        go_ret
        exact ⟨rfl, hB.out⟩

/-! the row's step, written out by law.py -/
set_option maxRecDepth 100000 in
theorem lifted (os : Os) (started : os.Started) (H : Type) (enc : TypeId × Value → H) :
    ReturnsInHanded {} Try.checked os 7 .any (Rows.tableBadSpec.pre6 enc Try.prog Try.f7 Rows.tableBadRow.domain false) (Rows.tableBadSpec.post enc Try.prog Try.f7 false true false false) := by
  refine returnsInHanded_of_change_shaped (C := Try.checked) own started (by kernel_rfl) Try.func7
    (ChangeSpec.witness6 (enc := enc) (C := Try.checked) false ⟨#[], #[.string ByteArray.empty, .int .i64 0, .int .i64 0], []⟩ 8 (by kernel_rfl) (by kernel_rfl) (by kernel_rfl) (by kernel_rfl)) ?_
  intro W base args ds gs before hval0 hW hcnd _ hsh _
  have hval : ∀ (j : Nat) t v, Try.f7.params[j]? = some t → args[j]? = some v → Value.okWide Try.prog W .any base t v := hval0
  have hW' := hW
  obtain ⟨p, q, hA0, hV, rfl, hfz, hnd⟩ := hW
  have hA : DataW.TrodAll enc Try.prog W 0 (fun _ => true) true Try.f7.params.toList args.toList ds p := hA0
  rw [Try.params7] at hA hval
  obtain ⟨v0, vs0, d0, ds0, p0, q0, hargs, rfl, rfl, h0, r0⟩ := trodAll_cons hA
  obtain ⟨v1, vs1, d1, ds1, p1, q1, rfl, rfl, rfl, h1, r1⟩ := trodAll_cons r0
  obtain ⟨v2, vs2, d2, ds2, p2, q2, rfl, rfl, rfl, h2, r2⟩ := trodAll_cons r1
  obtain ⟨rfl, rfl, rfl⟩ := trodAll_nil r2
  obtain rfl : args = #[v0, v1, v2] := by cases args; simp_all
  obtain ⟨rfl, rfl⟩ := trodVars_none hV
  have k0 := h0
  have lt0 : ∀ x ∈ p0, x.block < W.heap.size := by obtain ⟨m, hm⟩ := k0; exact DataW.trod_lt m _ _ _ hm
  have k1 := h1
  have lt1 : ∀ x ∈ p1, x.block < W.heap.size := by obtain ⟨m, hm⟩ := k1; exact DataW.trod_lt m _ _ _ hm
  have k2 := h2
  have lt2 : ∀ x ∈ p2, x.block < W.heap.size := by obtain ⟨m, hm⟩ := k2; exact DataW.trod_lt m _ _ _ hm
  obtain ⟨a0, rfl, rfl, rfl, w0⟩ := open_string Try.underlying9 (hval 0 9 v0 rfl rfl) h0
  obtain ⟨a1, rfl, rfl, rfl, w1⟩ := open_int Try.underlying3 (hval 1 3 v1 rfl rfl) h1
  have w1 := bounds_i64 w1
  obtain ⟨a2, rfl, rfl, rfl, w2⟩ := open_int Try.underlying2 (hval 2 2 v2 rfl rfl) h2
  have w2 := bounds_i64 w2
  clear hA0 hval0
  simp only [List.append_nil] at hW'
  obtain ⟨m, hm⟩ := maxLen_cell W hsh
  refine (walk m a0 a1 a2 W hm w0 w1 w2).mono fun e W' ⟨he, bel⟩ => ?_
  subst he
  exact ⟨_, rfl, _, _, _, [], _, [], hW', trodAll_mk1 (shut_bool Try.underlying4 _), (trodAll_cons_mk (Below.trod laidOut (by kernel_rfl) (of_decide_eq_true (by kernel_rfl)) k0 bel lt0) (trodAll_cons_mk (Below.trod laidOut (by kernel_rfl) (of_decide_eq_true (by kernel_rfl)) k1 bel lt1) (trodAll_cons_mk (Below.trod laidOut (by kernel_rfl) (of_decide_eq_true (by kernel_rfl)) k2 bel lt2) trodAll_mk0))), rfl, bel.frame _, fun h => by cases h⟩

theorem over : Rows.tableBadRow.holds Try.pinned (OpenSpec.ofChange Rows.tableBadSpec) :=
  OpenClaim.holds_of_wide 7 Try.f7 rfl rfl rfl rfl rfl rfl rfl ⟨rfl, rfl, rfl, rfl, rfl⟩ rfl rfl rfl rfl rfl (by kernel_rfl) Try.func7 (by kernel_rfl)
    (of_decide_eq_true (by kernel_rfl)) (by unfold Func.isWrapper; first | (rw [if_pos (by decide +kernel)]; kernel_rfl) | (rw [if_neg (by decide +kernel)]; exact ⟨rfl, rfl⟩))
    (fun os started H enc _ => lifted os started H enc)

theorem proved : Rows.TableBadSaid := over
end Go.Proofs.Ytbmldiklgkojnaa.lawTableBad
