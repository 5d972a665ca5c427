/- No client; no process. -/
import Derived.Test.YtbonjbokofkafaaGreatPkW
import Derived.Test.YtbonjbokofkafaaGreatPkK
import Derived.Test.YtbonjbokofkafaaGreatPkA
namespace Go.Proofs.YtbonjbokofkafaaGreat.lawClientNone
open Go.ChangeShapes Go.WideShapes Go.ChangeAt Go.RowKit
set_option linter.unusedVariables false

def stN : Value := .agg #[.bool false, .bool false, .bool false, .int .i64 0, .int .i64 0, .int .i64 0, .int .i64 0, .int .i64 0]
set_option maxRecDepth 100000 in
set_option maxHeartbeats 8000000 in
theorem status_none (v : Value) (w : World) (hN : ∀ w1, Below w.heap.size w w1 → Calls Tryz.prog 80 #[v] w1 fun r w' => r = .returned (.pointer none) ∧ w1 = w') :
    Calls Tryz.prog 27 #[v] w fun r w' => r = .returned stN ∧ Below w.heap.size w w' := by
  unfold stN
  obtain ⟨W0, hW0⟩ : ∃ W, W = w.alloc (.cells #[.bool false, .bool false, .bool false, .int .i64 0, .int .i64 0, .int .i64 0, .int .i64 0, .int .i64 0] 47) := ⟨_, rfl⟩
  have hB0 : Below w.heap.size w W0 := hW0 ▸ (Below.refl _ _).alloc (Nat.le_refl _) _
  obtain ⟨rb, hrb⟩ : ∃ rb, rb = w.heap.size := ⟨_, rfl⟩
  have hr0 : W0.heap[rb]? = some (.cells #[.bool false, .bool false, .bool false, .int .i64 0, .int .i64 0, .int .i64 0, .int .i64 0, .int .i64 0] 47 (0, 0)) := hW0 ▸ hrb ▸ at_new _ _
  have hN0 := Lib.hid (hN W0 hB0)
  replace hN := Lib.hid hN
  replace hB0 := Lib.hid hB0
  replace hr0 := Lib.hid hr0
  go_enter Tryz.func27, Tryz.ntmps27
  go_upto_region 1 with (fail)
  rw [← hW0, ← hrb]
  replace hW0 := Lib.hid hW0
  replace hrb := Lib.hid hrb
  go_wp2_with fail
  refine hN0.out.mono ?_
  rintro r wx ⟨rfl, rfl⟩
  go_wp2_with fail
  refine (nView _).mono ?_
  rintro r w1 ⟨rfl, hb1⟩
  have hr1 := Lib.hid (at_below hr0.out hb1)
  have hB1 := Lib.hid (hB0.out.trans (hb1.mono hB0.out.size))
  clear hb1
  go_wp2_with fail
  refine (nGood _).mono ?_
  rintro r w2 ⟨rfl, hb2⟩
  have hr2 := at_below hr1.out hb2
  have hB2 := Lib.hid (hB1.out.trans (hb2.mono hB1.out.size))
  have y0 := free_at hr2 0
  have y1 := free_at hr2 1
  have y2 := free_at hr2 2
  have y3 := free_at hr2 3
  have y4 := free_at hr2 4
  have y5 := free_at hr2 5
  have y6 := free_at hr2 6
  have y7 := free_at hr2 7
  have z0 := cell_at hr2 0
  have z1 := cell_at hr2 1
  have z2 := cell_at hr2 2
  have z3 := cell_at hr2 3
  have z4 := cell_at hr2 4
  have z5 := cell_at hr2 5
  have z6 := cell_at hr2 6
  have z7 := cell_at hr2 7
  have lr2 := at_lt hr2
  replace hr2 := Lib.hid hr2
  clear hb2
  go_wp2_with fail
  refine (nLog _).mono ?_
  rintro r wx ⟨rfl, rfl⟩
  go_wp2_with fail
  refine (nCommit _).mono ?_
  rintro r wx ⟨rfl, rfl⟩
  go_wp2_with fail
  refine (nTold _).mono ?_
  rintro r wx ⟨rfl, rfl⟩
  go_wp2_with fail
  refine (nWaits _).mono ?_
  rintro r wx ⟨rfl, rfl⟩
  go_wp2
  refine bodyPost_ret (v := .agg #[.bool false, .bool false, .bool false, .int .i64 0, .int .i64 0, .int .i64 0, .int .i64 0, .int .i64 0]) (by simp [results, Tryz.results27, go_sem, *]) rfl ?_
  refine ⟨rfl, ?_⟩
  have hz : w.heap.size ≤ rb := Nat.le_of_eq hrb.out.symm
  exact bel_set (bel_set (bel_set (bel_set (bel_set (bel_set (bel_set (bel_set hB2.out hz 0 _) hz 1 _) hz 2 _) hz 3 _) hz 4 _) hz 5 _) hz 6 _) hz 7 _
set_option maxRecDepth 100000 in
theorem get_none (v : Value) (a : ByteArray) (w : World) (hN : ∀ w1, Below w.heap.size w w1 → Calls Tryz.prog 80 #[v] w1 fun r w' => r = .returned (.pointer none) ∧ w1 = w') :
    Calls Tryz.prog 35 #[v, .string a] w fun r w' => r = .returned (.tuple #[.string ⟨#[]⟩, .int .i64 5]) ∧ Below w.heap.size w w' := by
  have hS := Lib.hid (status_none v w hN)
  clear hN
  go_enter Tryz.func35, Tryz.ntmps35
  go_wp2_with fail
  refine hS.out.mono ?_
  rintro r w1 ⟨rfl, hb1⟩
  have hba := Lib.hid (hb1.alloc hb1.size (.cells #[.bool false, .bool false, .bool false, .int .i64 0, .int .i64 0, .int .i64 0, .int .i64 0, .int .i64 0] 47))
  unfold stN
  replace hb1 := Lib.hid hb1
  go_wp2
  refine bodyPost_ret (v := .tuple #[.string ⟨#[]⟩, .int .i64 5]) (by simp [results, Tryz.results35, go_sem]) rfl ?_
  exact ⟨rfl, hba.out⟩
set_option maxRecDepth 100000 in
theorem poll_nil (w : World) : Calls Tryz.prog 26 #[.pointer none] w fun r w' => r = .returned (.slice none 0 0) ∧ w = w' := by
  go_enter Tryz.func26, Tryz.ntmps26
  go_wp2_with fail
  refine (cNode_nil _).mono ?_
  rintro r wx ⟨rfl, rfl⟩
  go_wp2_with fail
  refine (nTold _).mono ?_
  rintro r wx ⟨rfl, rfl⟩
  go_wp2
  go_ret
  exact ⟨rfl, rfl⟩
set_option maxRecDepth 100000 in
theorem poll_none (cb : Nat) (lost : Int) (w : World) (h : ctO w cb (.pointer none) 0 lost) : Calls Tryz.prog 26 #[ptr0 cb] w fun r w' => r = .returned (.slice none 0 0) ∧ w = w' := by
  have c1 : w.cell? ⟨cb, 1, none⟩ = some (.int .i64 0) := cell_at h 1
  have hl := at_lt h
  have hN := Lib.hid (cNode_any cb _ _ _ w h)
  clear h
  go_enter Tryz.func26, Tryz.ntmps26
  go_wp2_with fail
  refine hN.out.mono ?_
  rintro r wx ⟨rfl, rfl⟩
  go_wp2_with fail
  refine (nTold _).mono ?_
  rintro r wx ⟨rfl, rfl⟩
  go_wp2
  go_ret
  exact ⟨rfl, rfl⟩
set_option maxRecDepth 100000 in
theorem cast_nil (w : World) : Calls Tryz.prog 25 #[.pointer none, .int .i64 0, .int .i64 0, .string ⟨#[]⟩] w fun r w' => r = .returned (.int .i64 5) ∧ w = w' := by
  go_enter Tryz.func25, Tryz.ntmps25
  go_wp2_with fail
  refine (cNode_nil _).mono ?_
  rintro r wx ⟨rfl, rfl⟩
  go_wp2_with fail
  refine (nCast 0 0 ⟨#[]⟩ _).mono ?_
  rintro r wx ⟨rfl, rfl⟩
  go_wp2
  go_ret
  exact ⟨rfl, rfl⟩
set_option maxRecDepth 100000 in
theorem cast_none (cb : Nat) (w : World) (h : ctO w cb (.pointer none) 0 0) : Calls Tryz.prog 25 #[ptr0 cb, .int .i64 0, .int .i64 0, .string ⟨#[]⟩] w fun r w' => r = .returned (.int .i64 5) ∧ ∃ w1, Below w.heap.size w w1 ∧ w' = w1.setCell ⟨cb, 3, none⟩ (.int .i64 1) := by
  have hl := at_lt h
  have hN := Lib.hid (cNode_any cb _ _ _ w h)
  have hT := Lib.hid (tlAdd_any cb _ 0 0 w h (by omega) (by omega))
  clear h
  go_enter Tryz.func25, Tryz.ntmps25
  go_wp2_with fail
  refine hN.out.mono ?_
  rintro r wx ⟨rfl, rfl⟩
  go_wp2_with fail
  refine (nCast 0 0 ⟨#[]⟩ _).mono ?_
  rintro r wx ⟨rfl, rfl⟩
  go_wp2_with fail
  refine hT.out.mono ?_
  rintro r w2 ⟨rfl, w3, hb3, rfl⟩
  replace hb3 := Lib.hid hb3
  go_wp2
  go_ret
  exact ⟨rfl, _, hb3.out, rfl⟩
set_option maxRecDepth 100000 in
set_option maxHeartbeats 16000000 in
theorem walk (mm : Int) (w : World) (hmm : w.cell? ⟨0, 0, none⟩ = some (.int .i64 mm)) :
    Calls Tryz.prog 5 #[] w fun r w' => r = .returned (.bool true) ∧ Below w.heap.size w w' := by
  have m0 := Lib.hid hmm
  have hml := cell_lt hmm
  clear hmm
  have hC := Lib.hid (cNew_any none w)
  have hBn : Below w.heap.size w (w.alloc (.cells (ctC (ptrO none) 0 0) 126)) := (Below.refl _ _).alloc (Nat.le_refl _) _
  have hcn : ctO (w.alloc (.cells (ctC (ptrO none) 0 0) 126)) w.heap.size (.pointer none) 0 0 := at_new _ _
  obtain ⟨cb, hcb⟩ : ∃ cb, cb = w.heap.size := ⟨_, rfl⟩
  obtain ⟨W0, hW0⟩ : ∃ W, W = w.alloc (.cells (ctC (ptrO none) 0 0) 126) := ⟨_, rfl⟩
  rw [← hcb, ← hW0] at hcn
  rw [← hW0] at hBn
  have hBn := Lib.hid hBn
  have hcb2 := Lib.hid hcb
  go_enter Tryz.func5, Tryz.ntmps5
  go_wp2_with fail
  refine hC.out.mono ?_
  rintro r wx ⟨rfl, hwx⟩
  rw [← hW0] at hwx
  subst hwx
  rw [← hcb]
  replace hcb := Lib.hid hcb
  replace hW0 := Lib.hid hW0
  clear hC
  have hG := Lib.hid (get_none (.pointer none) ⟨#[97]⟩ wx (fun w1 _ => cNode_nil w1))
  replace hcn := Lib.hid hcn
  go_wp2_with fail
  refine hG.out.mono ?_
  rintro r w1 ⟨rfl, hb1⟩
  have hB1 := Lib.hid (hBn.out.trans (hb1.mono hBn.out.size))
  have c1 := Lib.hid (show ctO w1 cb (.pointer none) 0 0 from at_below hcn.out hb1)
  have hG2 := Lib.hid (get_none (ptr0 cb) ⟨#[97]⟩ w1 (fun w2 hb => cNode_any cb _ 0 0 w2 (at_below c1.out hb)))
  clear hG hb1
  go_wp2_with fail
  refine hG2.out.mono ?_
  rintro r w2 ⟨rfl, hb2⟩
  have hB2 := Lib.hid (hB1.out.trans (hb2.mono hB1.out.size))
  have c2 := Lib.hid (show ctO w2 cb (.pointer none) 0 0 from at_below c1.out hb2)
  have hS := Lib.hid (status_none (.pointer none) w2 (fun w1 _ => cNode_nil w1))
  clear hG2 hb2
  go_wp2_with fail
  refine hS.out.mono ?_
  rintro r w3 ⟨rfl, hb3⟩
  have hB3 := Lib.hid (hB2.out.trans (hb3.mono hB2.out.size))
  have c3 := Lib.hid (show ctO w3 cb (.pointer none) 0 0 from at_below c2.out hb3)
  have hS2 := Lib.hid (status_none (ptr0 cb) w3 (fun w2 hb => cNode_any cb _ 0 0 w2 (at_below c3.out hb)))
  clear hS hb3
  go_wp2_with fail
  refine hS2.out.mono ?_
  rintro r w4 ⟨rfl, hb4⟩
  have hB4 := Lib.hid (hB3.out.trans (hb4.mono hB3.out.size))
  have c4 := show ctO w4 cb (.pointer none) 0 0 from at_below c3.out hb4
  unfold stN
  clear hS2 hb4
  replace c4 := Lib.hid c4
  obtain ⟨s1, hs1⟩ : ∃ s1, s1 = w4.heap.size := ⟨_, rfl⟩
  obtain ⟨s2, hs2⟩ : ∃ s2, s2 = w4.heap.size + 1 := ⟨_, rfl⟩
  obtain ⟨W5, hW5⟩ : ∃ W, W = (w4.alloc (.cells #[.bool false, .bool false, .bool false, .int .i64 0, .int .i64 0, .int .i64 0, .int .i64 0, .int .i64 0] 47)).alloc (.cells #[.bool false, .bool false, .bool false, .int .i64 0, .int .i64 0, .int .i64 0, .int .i64 0, .int .i64 0] 47) := ⟨_, rfl⟩
  have hB45 : Below w4.heap.size w4 W5 := hW5 ▸ ((Below.refl _ _).alloc (Nat.le_refl _) _).alloc (by simp) _
  have hx1 : W5.heap[s1]? = some (.cells #[.bool false, .bool false, .bool false, .int .i64 0, .int .i64 0, .int .i64 0, .int .i64 0, .int .i64 0] 47 (0, 0)) := hW5 ▸ hs1 ▸ at_below (at_new w4 _) ((Below.refl _ _).alloc (Nat.le_refl _) _)
  have hx2 : W5.heap[s2]? = some (.cells #[.bool false, .bool false, .bool false, .int .i64 0, .int .i64 0, .int .i64 0, .int .i64 0, .int .i64 0] 47 (0, 0)) := by
    have := at_new (w4.alloc (.cells #[.bool false, .bool false, .bool false, .int .i64 0, .int .i64 0, .int .i64 0, .int .i64 0, .int .i64 0] 47)) (.cells #[.bool false, .bool false, .bool false, .int .i64 0, .int .i64 0, .int .i64 0, .int .i64 0, .int .i64 0] 47)
    rw [World.size_alloc, ← hs2, ← hW5] at this
    exact this
  have hB5 := Lib.hid (hB4.out.trans (hB45.mono hB4.out.size))
  have hc5 := show ctO W5 cb (.pointer none) 0 0 from at_below c4.out hB45
  have hlc := at_lt c4.out
  have hT := Lib.hid (cast_none cb W5 hc5)
  replace hc5 := Lib.hid hc5
  replace hx1 := Lib.hid hx1
  replace hx2 := Lib.hid hx2
  replace hB45 := Lib.hid hB45
  go_wp2_with fail
  have hs3 : s2 = s1 + 1 := by omega
  rw [← hW5, ← hs1, ← hs3]
  replace hs3 := Lib.hid hs3
  replace hW5 := Lib.hid hW5
  have hs1' := Lib.hid hs1
  have hs2' := Lib.hid hs2
  replace hs1 := Lib.hid hs1
  replace hs2 := Lib.hid hs2
  refine (cast_nil _).mono ?_
  rintro r wy ⟨rfl, rfl⟩
  go_wp2_with fail
  refine hT.out.mono ?_
  rintro r w6 ⟨rfl, w5, hb5, rfl⟩
  obtain ⟨W6, hW6⟩ : ∃ W, W = w5.setCell ⟨cb, 3, none⟩ (.int .i64 1) := ⟨_, rfl⟩
  have hB6 : Below w.heap.size w W6 := hW6 ▸ bel_set (hB5.out.trans (hb5.mono hB5.out.size)) (by rw [hcb.out]; exact Nat.le_refl _) 3 _
  have hc6 : ctO W6 cb (.pointer none) 0 1 := by
    have h5 : ctO w5 cb (.pointer none) 0 0 := at_below hc5.out hb5
    unfold ctO at h5 ⊢
    rw [hW6]
    exact set_at h5
  have hx1' := show W6.heap[s1]? = _ from hW6 ▸ set_far (at_below hx1.out hb5) (by have := hs1.out; omega)
  have hx2' := show W6.heap[s2]? = _ from hW6 ▸ set_far (at_below hx2.out hb5) (by have := hs2.out; omega)
  rw [← hW6]
  replace hW6 := Lib.hid hW6
  clear hT hb5 hlc
  have m6 : W6.cell? ⟨0, 0, none⟩ = some (.int .i64 mm) := by rw [hB6.cell hml]; exact m0.out
  have hBg := Lib.hid (b26_any W6 ⟨mm, m6⟩)
  replace hc6 := Lib.hid hc6
  replace hB6 := Lib.hid hB6
  replace hx1' := Lib.hid hx1'
  replace hx2' := Lib.hid hx2'
  clear m6
  go_wp2_with fail
  refine hBg.out.mono ?_
  rintro r w7 ⟨rfl, hb7⟩
  have hB7 := Lib.hid (hB6.out.trans (hb7.mono hB6.out.size))
  have hc7 := show ctO w7 cb (.pointer none) 0 1 from at_below hc6.out hb7
  have hy1 := at_below hx1'.out hb7
  have hy2 := at_below hx2'.out hb7
  have z0 := cell_at hy1 0
  have y0 := cell_at hy2 0
  have y3 := cell_at hy2 3
  have l1 := at_lt hy1
  have l2 := at_lt hy2
  have hP := Lib.hid (poll_none cb 1 w7 hc7)
  have hL := Lib.hid (cLost_any cb _ 0 1 w7 hc7)
  replace hc7 := Lib.hid hc7
  replace hy1 := Lib.hid hy1
  replace hy2 := Lib.hid hy2
  clear hBg hb7
  go_wp2_with fail
  refine (poll_nil _).mono ?_
  rintro r wy ⟨rfl, rfl⟩
  go_wp2_with fail
  refine hP.out.mono ?_
  rintro r wy ⟨rfl, rfl⟩
  go_wp2_with fail
  refine (cLost_nil _).mono ?_
  rintro r wy ⟨rfl, rfl⟩
  go_wp2_with fail
  refine hL.out.mono ?_
  rintro r w8 ⟨rfl, hb8⟩
  have hB8 := Lib.hid (hB7.out.trans (hb8.mono hB7.out.size))
  clear hb8
  go_wp2
  go_ret
  exact ⟨rfl, hB8.out⟩

/-! the row's step, written out by law.py -/
set_option maxRecDepth 100000 in
theorem lifted (os : Os) (started : os.Started) (H : Type) (enc : TypeId × Value → H) :
    ReturnsInHanded {} Tryz.checked os 5 .any (Rows.clientNoneSpec.pre6 enc Tryz.prog Tryz.f5 Rows.clientNoneRow.domain false) (Rows.clientNoneSpec.post enc Tryz.prog Tryz.f5 false true false false) := by
  refine returnsInHanded_of_change_shaped (C := Tryz.checked) own started (by kernel_rfl) Tryz.func5
    (ChangeSpec.witness6 (enc := enc) (C := Tryz.checked) false ⟨#[], #[], []⟩ 8 (by kernel_rfl) (by kernel_rfl) (by kernel_rfl) (by kernel_rfl)) ?_
  intro W base args ds gs before hval0 hW hcnd _ hsh _
  have hval : ∀ (j : Nat) t v, Tryz.f5.params[j]? = some t → args[j]? = some v → Value.okWide Tryz.prog W .any base t v := hval0
  have hW' := hW
  obtain ⟨p, q, hA0, hV, rfl, hfz, hnd⟩ := hW
  have hA : DataW.TrodAll enc Tryz.prog W 0 (fun _ => true) true Tryz.f5.params.toList args.toList ds p := hA0
  rw [Tryz.params5] at hA hval
  obtain ⟨hargs, rfl, rfl⟩ := trodAll_nil hA
  obtain rfl : args = #[] := by cases args; simp_all
  obtain ⟨rfl, rfl⟩ := trodVars_none hV
  clear hA0 hval0
  simp only [List.append_nil] at hW'
  obtain ⟨m, hm⟩ := maxLen_cell W hsh
  refine (walk m W hm).mono fun e W' ⟨he, bel⟩ => ?_
  subst he
  exact ⟨_, rfl, _, _, _, [], _, [], hW', trodAll_mk1 (shut_bool Tryz.underlying4 _), trodAll_mk0, rfl, bel.frame _, fun h => by cases h⟩

theorem over : Rows.clientNoneRow.holds Tryz.pinned (OpenSpec.ofChange Rows.clientNoneSpec) :=
  OpenClaim.holds_of_wide 5 Tryz.f5 rfl rfl rfl rfl rfl rfl rfl ⟨rfl, rfl, rfl, rfl, rfl⟩ rfl rfl rfl rfl rfl (by kernel_rfl) Tryz.func5 (by kernel_rfl)
    (of_decide_eq_true (by kernel_rfl)) (by unfold Func.isWrapper; first | (rw [if_pos (by decide +kernel)]; kernel_rfl) | (rw [if_neg (by decide +kernel)]; exact ⟨rfl, rfl⟩))
    (fun os started H enc _ => lifted os started H enc)

theorem proved : Rows.ClientNoneSaid := over
end Go.Proofs.YtbonjbokofkafaaGreat.lawClientNone
