/- Votes that may not be are not taken, and nobody's second one is: for all numbers; no condition. -/
import Derived.Test.YtacchkmdheglaaaVtG
namespace Go.Proofs.Ytacchkmdheglaaa.lawVoteMay
open Go.ChangeShapes Go.WideShapes Go.ChangeAt Go.RowKit
set_option linter.unusedVariables false

theorem logN_log : ∀ n, n < 21 → (logE (logN n)).length = n := by decide +kernel
theorem logN_two : (logE [numE 0, numE 0]).length = 1 := by decide +kernel

theorem decT_ne {view n : Int} (h1 : 1 ≤ view) (h3 : 3 ≤ n) (h7 : n ≤ 7) : decT view n ≠ 0 := by
  rw [decT, if_neg (by omega)]
  have := Int.emod_nonneg (view - 1) (show n ≠ 0 by omega)
  omega
theorem okV_dup (view n f : Int) (l : List VtS) : okV view n l ⟨f, 0, [numE 0, numE 0], 0⟩ = false := by
  unfold okV
  have : decide ((logE [numE 0, numE 0]).length = ([numE 0, numE 0] : List Ent).length) = false := by rw [logN_two]; decide
  simp only [this]; simp
theorem okV_num {view n last frm com : Int} {N : Nat} (hN : N < 21) (l : List VtS) : okV view n l ⟨frm, last, logN N, com⟩ =
    (decide (1 ≤ frm) && decide (frm ≤ n) && !hasT (teamV l) frm && decide (0 ≤ last) && decide (last < view) && decide (0 ≤ com) && decide (com ≤ (N : Int))) := by
  unfold okV
  simp only [logN_log N hN, logN_len, decide_true, Bool.and_true]
theorem row_two {w : World} {B g cap : Nat} {E : TypeId} {e0 e1 : Ent} (h : ownE w B E (.slice (some ⟨g, 0, none⟩) 2 cap) [e0, e1]) :
    rdE (((((((w.setCell ⟨g, 7, none⟩ (.int .i64 e0.frm)).setCell ⟨g, 8, none⟩ (.int .i64 e0.boot)).setCell ⟨g, 9, none⟩ (.int .i64 e0.seq)).setCell ⟨g, 10, none⟩ (.int .i64 e0.ord)).setCell ⟨g, 11, none⟩ (.int .i64 e0.lev)).setCell ⟨g, 12, none⟩ (.int .i64 e0.stamp)).setCell ⟨g, 13, none⟩ (.string e0.data))
      (.slice (some ⟨g, 0, none⟩) 2 cap) [e0, e0] := by
  have hr := h.rd
  obtain ⟨_, _, he, hm, hM, ha⟩ := hr
  injection he with q1 q2 q3
  subst q3
  obtain ⟨b, off, hbo, hc⟩ := ha (by simp)
  rw [hbo] at q1
  injection q1 with q1; injection q1 with q4 q5; subst q4 q5
  obtain ⟨_, ⟨h1, _⟩ | ⟨g', cap', cur, h1, hb, hg, hn, hcm, hs, ht⟩⟩ := h
  · cases h1
  injection h1 with h1 h2 h3
  injection h1 with h1; injection h1 with h1; subst h1 h3
  have k0 := hc 0 (by simp)
  simp only [cellsE, cell_at hg, Nat.zero_mul, Nat.add_zero, Nat.zero_add, List.getElem_cons_zero] at k0
  have hsz : 14 ≤ cur.size := by omega
  have hf := set_at (o := 13) (u := .string e0.data) (set_at (o := 12) (u := .int .i64 e0.stamp) (set_at (o := 11) (u := .int .i64 e0.lev) (set_at (o := 10) (u := .int .i64 e0.ord) (set_at (o := 9) (u := .int .i64 e0.seq) (set_at (o := 8) (u := .int .i64 e0.boot) (set_at (o := 7) (u := .int .i64 e0.frm) hg))))))
  refine ⟨_, _, rfl, hm, hM, fun _ => ⟨g, 0, rfl, fun j hj => ?_⟩⟩
  have hj' : j = 0 ∨ j = 1 := by simp at hj; omega
  rcases hj' with rfl | rfl
  · simp only [cellsE, cell_at hf, Nat.zero_mul, Nat.add_zero, Nat.zero_add, List.getElem_cons_zero]
    obtain ⟨a0, a1, a2, a3, a4, a5, a6⟩ := k0
    refine ⟨?_, ?_, ?_, ?_, ?_, ?_, ?_⟩ <;> simp [Array.getElem?_setIfInBounds, *]
  · simp only [cellsE, cell_at hf, Nat.zero_add, Nat.one_mul, List.getElem_cons_succ, List.getElem_cons_zero]
    refine ⟨?_, ?_, ?_, ?_, ?_, ?_, ?_⟩ <;> simp [Array.getElem?_setIfInBounds] <;> omega

set_option maxRecDepth 100000 in
set_option maxHeartbeats 8000000 in
theorem walk (view last frm n have_ com : Int) (w : World) (hv : I64 view) (hla : I64 last) (hf : I64 frm) (hn : I64 n) (hh : I64 have_) (hc : I64 com) :
    Calls Try.prog 11 #[.int .i64 view, .int .i64 last, .int .i64 frm, .int .i64 n, .int .i64 have_, .int .i64 com] w fun e w' => e = .returned (.bool true) ∧ Below w.heap.size w w' := by
  go_enter Try.func11, Try.ntmps11
  go_wp2_with fail
  refine (b20_any _).mono ?_
  rintro e w1 ⟨rfl, hb1⟩
  clear hv hla hn hh hc
  by_cases c1 : view < 1
  · go_wp2
    go_ret
    exact ⟨rfl, hb1⟩
  by_cases c2 : 1099511627776 < view
  · go_wp2
    go_ret
    exact ⟨rfl, hb1⟩
  by_cases c3 : n < 3
  · go_wp2
    go_ret
    exact ⟨rfl, hb1⟩
  by_cases c4 : 7 < n
  · go_wp2
    go_ret
    exact ⟨rfl, hb1⟩
  by_cases c5 : have_ < 0
  · go_wp2
    go_ret
    exact ⟨rfl, hb1⟩
  by_cases c6 : 20 < have_
  · go_wp2
    go_ret
    exact ⟨rfl, hb1⟩
  obtain ⟨N, rfl⟩ : ∃ N : Nat, have_ = N := ⟨have_.toNat, by omega⟩
  have hN : N < 21 := by omega
  have hdn := decT_ne (show 1 ≤ view by omega) (show 3 ≤ n by omega) (show n ≤ 7 by omega)
  replace hdn := Lib.hid hdn
  replace hb1 := Lib.hid hb1
  go_wp2_with fail
  refine (vNew_st view n _ (by omega) (by omega) hdn.out).mono ?_
  rintro r w2 ⟨b, rfl, hS, hb2⟩
  have hB2 := Lib.hid (hb1.out.trans (hb2.mono hb1.out.size))
  have hS2 : VSt 78 47 (fun _ => False) w w2 b view n [] := by
    obtain ⟨F, D, h1, h2, h3⟩ := hS
    exact ⟨F, D, fun k hk => ⟨Nat.le_trans hb1.out.size (h1 k hk).1, (h1 k hk).2⟩, fun k hk => hk.elim, h3⟩
  replace hS2 := Lib.hid hS2
  clear hS hb2 hb1 hdn
  obtain ⟨g, hg⟩ : ∃ g, g = (decide (1 ≤ frm) && decide (frm ≤ n) && decide (0 ≤ last) && decide (last < view) && decide (0 ≤ com) && decide (com ≤ (N : Int))) := ⟨_, rfl⟩
  replace hg := Lib.hid hg
  go_upto_region 7 with (fail)
  go_cut [15] (fun s wx => s = .bool g ∧ w2 = wx)
  case first =>
    by_cases g1 : 1 ≤ frm
    case neg =>
      have d : decide (1 ≤ frm) = false := by simpa using g1
      go_wp2_with fail
      go_meet
      exact ⟨by rw [hg.out]; simp [d], rfl⟩
    have d1 : decide (1 ≤ frm) = true := by simpa using g1
    by_cases g2 : frm ≤ n
    case neg =>
      have d : decide (frm ≤ n) = false := by simpa using g2
      go_wp2_with fail
      go_meet
      exact ⟨by rw [hg.out]; simp [d], rfl⟩
    have d2 : decide (frm ≤ n) = true := by simpa using g2
    by_cases g3 : 0 ≤ last
    case neg =>
      have d : decide (0 ≤ last) = false := by simpa using g3
      go_wp2_with fail
      go_meet
      exact ⟨by rw [hg.out]; simp [d], rfl⟩
    have d3 : decide (0 ≤ last) = true := by simpa using g3
    by_cases g4 : last < view
    case neg =>
      have d : decide (last < view) = false := by simpa using g4
      go_wp2_with fail
      go_meet
      exact ⟨by rw [hg.out]; simp [d], rfl⟩
    have d4 : decide (last < view) = true := by simpa using g4
    by_cases g5 : 0 ≤ com
    case neg =>
      have d : decide (0 ≤ com) = false := by simpa using g5
      go_wp2_with fail
      go_meet
      exact ⟨by rw [hg.out]; simp [d], rfl⟩
    have d5 : decide (0 ≤ com) = true := by simpa using g5
    by_cases g6 : com ≤ (N : Int)
    case neg =>
      have d : decide (com ≤ (N : Int)) = false := by simpa using g6
      go_wp2_with fail
      go_meet
      exact ⟨by rw [hg.out]; simp [d], rfl⟩
    have d6 : decide (com ≤ (N : Int)) = true := by simpa using g6
    go_wp2_with fail
    go_meet
    exact ⟨by rw [hg.out]; simp [d1, d2, d3, d4, d5, d6], rfl⟩
  case rest =>
    obtain ⟨rfl, rfl⟩ := hcut
    clear c1 c2 c3 c4 c5 c6
    have ok1 : okV view n [] ⟨frm, last, logN N, com⟩ = g := by
      rw [okV_num hN, hg.out, show teamV [] = 0 from rfl, has_zero]; simp
    have ok2 : ∀ l' : List VtS, (l'.map fun y => y.v) = (if g then [⟨frm, last, logN N, com⟩] else []) → okV view n l' ⟨frm, last, logN N, com⟩ = false ∧ hasT (teamV l') frm = g := by
      intro l' hl'
      cases g
      · obtain rfl : l' = [] := by simpa using hl'
        exact ⟨ok1, has_zero _⟩
      · obtain ⟨s1, rfl⟩ := map_one (by simpa using hl')
        have hg' := hg.out.symm
        simp only [Bool.and_eq_true, decide_eq_true_eq] at hg'
        have hh : hasT (teamV [⟨⟨frm, last, logN N, com⟩, s1⟩]) frm = true := by
          show hasT (withT 0 frm) frm = true
          rw [has_with]
          simp [isB]; omega
        rw [okV_num hN, hh]; simp
    replace ok1 := Lib.hid ok1
    replace ok2 := Lib.hid ok2
    go_wp2_with fail
    refine (logOf_any N _ (by omega)).mono ?_
    rintro r w3 ⟨v3, rfl, ho3, hb3⟩
    have hS3 := Lib.hid (hS2.out.grow hb3)
    have hB3 := Lib.hid (hB2.out.trans (hb3.mono hB2.out.size))
    have R3 := Lib.hid ho3.rd
    obtain ⟨a3, k3, rfl⟩ := ho3.rd.len
    clear ho3 hb3 hS2 hB2
    go_wp2_with fail
    refine (vAdd_st b view n [] ⟨frm, last, logN N, com⟩ _ _ w _ hS3.out hB3.out.size R3.out (by simp)).mono ?_
    rintro r w4 ⟨rfl, l4, hS4, hm4, hc4⟩
    rw [ok1.out] at hm4 ⊢
    have hB4 := Lib.hid (hB3.out.trans (hc4.below hB3.out.size fun k hk => hk.1))
    rw [List.map_nil, List.nil_append] at hm4
    have hl4 : l4.length ≤ 1 := by rw [← List.length_map (f := fun y : VtS => y.v), hm4]; split <;> simp
    replace hS4 := Lib.hid hS4
    replace hm4 := Lib.hid hm4
    clear hc4 hS3 hB3 R3 ok1
    go_wp2_with fail
    refine (logOf_any N _ (by omega)).mono ?_
    rintro r w5 ⟨v5, rfl, ho5, hb5⟩
    have hS5 := Lib.hid (hS4.out.grow hb5)
    have hB5 := Lib.hid (hB4.out.trans (hb5.mono hB4.out.size))
    have R5 := Lib.hid ho5.rd
    obtain ⟨a5, k5, rfl⟩ := ho5.rd.len
    clear ho5 hb5 hS4 hB4
    go_wp2_with fail
    refine (vAdd_st b view n l4 ⟨frm, last, logN N, com⟩ _ _ w _ hS5.out hB5.out.size R5.out (by omega)).mono ?_
    rintro r w6 ⟨rfl, l6, hS6, hm6, hc6⟩
    rw [(ok2.out l4 hm4.out).1] at hm6 ⊢
    have hB6 := Lib.hid (hB5.out.trans (hc6.below hB5.out.size fun k hk => hk.1))
    rw [if_neg Bool.false_ne_true, List.append_nil, hm4.out] at hm6
    have hl6 : l6.length ≤ 1 := by rw [← List.length_map (f := fun y : VtS => y.v), hm6]; split <;> simp
    replace hS6 := Lib.hid hS6
    replace hm6 := Lib.hid hm6
    clear hc6 hS5 hB5 R5
    go_wp2_with fail
    refine (logOf_any 2 _ (by omega)).mono ?_
    rintro r w7 ⟨v7, rfl, ho7, hb7⟩
    have hB7 := hB6.out.trans (hb7.mono hB6.out.size)
    have ho7 : ownE w7 w6.heap.size 67 v7 [numE 0, numE 1] := ho7
    have hrow : ∃ gb cap, v7 = .slice (some ⟨gb, 0, none⟩) 2 cap ∧ 2 ≤ cap := by
      obtain ⟨_, ⟨_, h⟩ | ⟨gb, cap, cur, h, _, _, hn, _⟩⟩ := ho7
      · simp at h
      · exact ⟨gb, cap, h, hn⟩
    obtain ⟨gb, cap, rfl, hcap⟩ := hrow
    have hgb := (ho7.lt gb rfl)
    have hR8 := row_two ho7
    have hc8 : Below w6.heap.size w6 (((((((w7.setCell ⟨gb, 7, none⟩ (.int .i64 (numE 0).frm)).setCell ⟨gb, 8, none⟩ (.int .i64 (numE 0).boot)).setCell ⟨gb, 9, none⟩ (.int .i64 (numE 0).seq)).setCell ⟨gb, 10, none⟩ (.int .i64 (numE 0).ord)).setCell ⟨gb, 11, none⟩ (.int .i64 (numE 0).lev)).setCell ⟨gb, 12, none⟩ (.int .i64 (numE 0).stamp)).setCell ⟨gb, 13, none⟩ (.string (numE 0).data)) :=
      ((((((hb7.setCell hgb.1 _).setCell hgb.1 _).setCell hgb.1 _).setCell hgb.1 _).setCell hgb.1 _).setCell hgb.1 _).setCell hgb.1 _
    have hS8 := hS6.out.grow hc8
    have hB8 := hB6.out.trans (hc8.mono hB6.out.size)
    obtain ⟨_, _, he7, _, _, ha7⟩ := ho7.rd
    injection he7 with q1 q2 q3
    obtain ⟨bb, oo, hbo, hcc⟩ := ha7 (by simp)
    rw [hbo] at q1
    injection q1 with q1; injection q1 with q4 q5; subst q4 q5
    have k0 := hcc 0 (by simp)
    have k1 := hcc 1 (by simp)
    obtain ⟨e0, e1, e2, e3, e4, e5, e6⟩ := k0
    obtain ⟨f0, f1, f2, f3, f4, f5, f6⟩ := k1
    have hfz : ∀ o, w7.frozen? ⟨gb, o, none⟩ = false := fun o => by
      obtain ⟨_, ⟨h, _⟩ | ⟨gb', cap', cur, h, _, hg', _⟩⟩ := ho7
      · cases h
      · injection h with h; injection h with h; injection h with h; subst h
        exact free_at hg' o
    simp only [Nat.zero_mul, Nat.add_zero, Nat.zero_add, Nat.one_mul, List.getElem_cons_zero, List.getElem_cons_succ, numE] at e0 e1 e2 e3 e4 e5 e6 f0 f1 f2 f3 f4 f5 f6
    simp only [numE] at hR8 hS8 hB8
    replace hR8 := Lib.hid hR8
    replace hS8 := Lib.hid hS8
    replace hB8 := Lib.hid hB8
    clear hcc ha7 hbo q2 q3 hc8 hb7 hB7 hS6 hB6 ho7
    go_wp2_with fail
    refine (vAdd_st b view n l6 ⟨_, 0, [numE 0, numE 0], 0⟩ _ _ w _ hS8.out hB8.out.size hR8.out (by omega)).mono ?_
    rintro r w9 ⟨rfl, l9, hS9, hm9, hc9⟩
    rw [okV_dup] at hm9 ⊢
    have hB9 := Lib.hid (hB8.out.trans (hc9.below hB8.out.size fun k hk => hk.1))
    rw [if_neg Bool.false_ne_true, List.append_nil, hm6.out] at hm9
    have hh := (ok2.out l9 hm9).2
    have hS9 := Lib.hid hS9
    have hlt9 := teamV_lt l9
    clear hc9 hS8 hB8 hR8 ok2 hm9 hm6 hm4
    replace hh := Lib.hid hh
    go_wp2_with fail
    refine (vTeam_any b view n l9 _ hS9.out.rd).mono ?_
    rintro r w10 ⟨rfl, hb10⟩
    have hB10 := Lib.hid (hB9.out.trans (hb10.mono hB9.out.size))
    clear hb10 hS9 hB9
    cases g
    all_goals
      go_wp2_with fail
      refine (has_nat (teamV l9) frm _ hlt9).mono ?_
      rintro r w11 ⟨rfl, rfl⟩
      rw [hh.out]
      go_wp2
      go_ret
      exact ⟨rfl, hB10.out⟩

/-! the row's step, written out by law.py -/
set_option maxRecDepth 100000 in
theorem lifted (os : Os) (started : os.Started) (H : Type) (enc : TypeId × Value → H) :
    ReturnsInHanded {} Try.checked os 11 .any (Rows.voteMaySpec.pre6 enc Try.prog Try.f11 Rows.voteMayRow.domain false) (Rows.voteMaySpec.post enc Try.prog Try.f11 false true false false) := by
  refine returnsInHanded_of_change (C := Try.checked) own started (by kernel_rfl) Try.func11
    (ChangeSpec.witness6 (enc := enc) (C := Try.checked) false ⟨#[], #[.int .i64 0, .int .i64 0, .int .i64 0, .int .i64 0, .int .i64 0, .int .i64 0], []⟩ 8 (by kernel_rfl) (by kernel_rfl) (by kernel_rfl) (by kernel_rfl)) ?_
  intro W base args ds gs before hval0 hW hcnd _
  have hval : ∀ (j : Nat) t v, Try.f11.params[j]? = some t → args[j]? = some v → Value.okWide Try.prog W .any base t v := hval0
  have hW' := hW
  obtain ⟨p, q, hA0, hV, rfl, hfz, hnd⟩ := hW
  have hA : DataW.TrodAll enc Try.prog W 0 (fun _ => true) true Try.f11.params.toList args.toList ds p := hA0
  rw [Try.params11] at hA hval
  obtain ⟨v0, vs0, d0, ds0, p0, q0, hargs, rfl, rfl, h0, r0⟩ := trodAll_cons hA
  obtain ⟨v1, vs1, d1, ds1, p1, q1, rfl, rfl, rfl, h1, r1⟩ := trodAll_cons r0
  obtain ⟨v2, vs2, d2, ds2, p2, q2, rfl, rfl, rfl, h2, r2⟩ := trodAll_cons r1
  obtain ⟨v3, vs3, d3, ds3, p3, q3, rfl, rfl, rfl, h3, r3⟩ := trodAll_cons r2
  obtain ⟨v4, vs4, d4, ds4, p4, q4, rfl, rfl, rfl, h4, r4⟩ := trodAll_cons r3
  obtain ⟨v5, vs5, d5, ds5, p5, q5, rfl, rfl, rfl, h5, r5⟩ := trodAll_cons r4
  obtain ⟨rfl, rfl, rfl⟩ := trodAll_nil r5
  obtain rfl : args = #[v0, v1, v2, v3, v4, v5] := by cases args; simp_all
  obtain ⟨rfl, rfl⟩ := trodVars_none hV
  have k0 := h0
  have lt0 : ∀ x ∈ p0, x.block < W.heap.size := by obtain ⟨m, hm⟩ := k0; exact DataW.trod_lt m _ _ _ hm
  have k1 := h1
  have lt1 : ∀ x ∈ p1, x.block < W.heap.size := by obtain ⟨m, hm⟩ := k1; exact DataW.trod_lt m _ _ _ hm
  have k2 := h2
  have lt2 : ∀ x ∈ p2, x.block < W.heap.size := by obtain ⟨m, hm⟩ := k2; exact DataW.trod_lt m _ _ _ hm
  have k3 := h3
  have lt3 : ∀ x ∈ p3, x.block < W.heap.size := by obtain ⟨m, hm⟩ := k3; exact DataW.trod_lt m _ _ _ hm
  have k4 := h4
  have lt4 : ∀ x ∈ p4, x.block < W.heap.size := by obtain ⟨m, hm⟩ := k4; exact DataW.trod_lt m _ _ _ hm
  have k5 := h5
  have lt5 : ∀ x ∈ p5, x.block < W.heap.size := by obtain ⟨m, hm⟩ := k5; exact DataW.trod_lt m _ _ _ hm
  obtain ⟨a0, rfl, rfl, rfl, w0⟩ := open_int Try.underlying2 (hval 0 2 v0 rfl rfl) h0
  have w0 := bounds_i64 w0
  obtain ⟨a1, rfl, rfl, rfl, w1⟩ := open_int Try.underlying2 (hval 1 2 v1 rfl rfl) h1
  have w1 := bounds_i64 w1
  obtain ⟨a2, rfl, rfl, rfl, w2⟩ := open_int Try.underlying3 (hval 2 3 v2 rfl rfl) h2
  have w2 := bounds_i64 w2
  obtain ⟨a3, rfl, rfl, rfl, w3⟩ := open_int Try.underlying3 (hval 3 3 v3 rfl rfl) h3
  have w3 := bounds_i64 w3
  obtain ⟨a4, rfl, rfl, rfl, w4⟩ := open_int Try.underlying3 (hval 4 3 v4 rfl rfl) h4
  have w4 := bounds_i64 w4
  obtain ⟨a5, rfl, rfl, rfl, w5⟩ := open_int Try.underlying3 (hval 5 3 v5 rfl rfl) h5
  have w5 := bounds_i64 w5
  clear hA0 hval0
  simp only [List.append_nil] at hW'
  refine (walk a0 a1 a2 a3 a4 a5 W w0 w1 w2 w3 w4 w5).mono fun e W' ⟨he, bel⟩ => ?_
  subst he
  exact ⟨_, rfl, _, _, _, [], _, [], hW', trodAll_mk1 (shut_bool Try.underlying4 _), (trodAll_cons_mk (Below.trod laidOut (by kernel_rfl) (of_decide_eq_true (by kernel_rfl)) k0 bel lt0) (trodAll_cons_mk (Below.trod laidOut (by kernel_rfl) (of_decide_eq_true (by kernel_rfl)) k1 bel lt1) (trodAll_cons_mk (Below.trod laidOut (by kernel_rfl) (of_decide_eq_true (by kernel_rfl)) k2 bel lt2) (trodAll_cons_mk (Below.trod laidOut (by kernel_rfl) (of_decide_eq_true (by kernel_rfl)) k3 bel lt3) (trodAll_cons_mk (Below.trod laidOut (by kernel_rfl) (of_decide_eq_true (by kernel_rfl)) k4 bel lt4) (trodAll_cons_mk (Below.trod laidOut (by kernel_rfl) (of_decide_eq_true (by kernel_rfl)) k5 bel lt5) trodAll_mk0)))))), rfl, bel.frame _, fun h => by cases h⟩

theorem over : Rows.voteMayRow.holds Try.pinned (OpenSpec.ofChange Rows.voteMaySpec) :=
  OpenClaim.holds_of_wide 11 Try.f11 rfl rfl rfl rfl rfl rfl rfl ⟨rfl, rfl, rfl, rfl, rfl⟩ rfl rfl rfl rfl rfl (by kernel_rfl) Try.func11 (by kernel_rfl)
    (of_decide_eq_true (by kernel_rfl)) (by unfold Func.isWrapper; first | (rw [if_pos (by decide +kernel)]; kernel_rfl) | (rw [if_neg (by decide +kernel)]; exact ⟨rfl, rfl⟩))
    (fun os started H enc _ => lifted os started H enc)

theorem proved : Rows.VoteMaySaid := over
end Go.Proofs.Ytacchkmdheglaaa.lawVoteMay
