/- Contract: does the first try of coming back hold? (it does) -/
import Derived.Test.YtacchkmdheglaaaJnD
import Derived.Test.YtacchkmdheglaaaPlanC
namespace Go.Proofs.Ytacchkmdheglaaa
open Go.RowKit
set_option linter.unusedVariables false

abbrev mA : Mg := ⟨11, 1, 2, 1, 7, 0, 3, 0, 0, 4, 0, true⟩
abbrev mB : Mg := ⟨11, 1, 2, 1, 4, 0, 3, 0, 0, 4, 0, true⟩
theorem mA_ok : mayOk mA 2 3 4 := ⟨rfl, rfl, rfl, rfl, by decide, by decide, by decide, by decide, by kernel_rfl, by kernel_rfl, rfl⟩
theorem mB_ok : mayOk mB 2 3 4 := ⟨rfl, rfl, rfl, rfl, by decide, by decide, by decide, by decide, by kernel_rfl, by kernel_rfl, rfl⟩

set_option maxRecDepth 100000 in
set_option maxHeartbeats 8000000 in
theorem b24_any (w : World) : Calls Try.prog 12 #[] w fun r w' => r = .returned (.bool true) ∧ Below w.heap.size w w' := by
  go_enter Try.func12, Try.ntmps12
  go_wp2_with fail
  refine (jNew_ok 2 3 4 5 _ (by omega) (by omega) (by omega) (by omega) (by omega) (by omega) (by omega) (by omega)).mono ?_
  rintro r w1 ⟨rfl, hj1, hb1⟩
  obtain ⟨b, hb⟩ : ∃ b, b = w.heap.size := ⟨_, rfl⟩
  rw [← hb] at hj1 ⊢
  replace hb := Lib.hid hb
  replace hj1 := Lib.hid hj1
  replace hb1 := Lib.hid hb1
  go_wp2_with fail
  refine (jNew_bad1 _).mono ?_
  rintro r w2 ⟨rfl, rfl⟩
  go_wp2_with fail
  refine (jNew_bad2 _).mono ?_
  rintro r w2 ⟨rfl, rfl⟩
  have hB3 := ((Below.refl w1.heap.size w1).alloc (Nat.le_refl _) (mA.box 30)).alloc (by simp) (mB.box 30)
  have hj3 := Lib.hid (hj1.out.below hB3)
  have hx3 := Lib.hid (at_old (mB.box 30) (at_new w1 (mA.box 30)))
  have hB3' := Lib.hid (hb1.out.trans (hB3.mono hb1.out.size))
  have hbx : Hid (b < w1.heap.size) := Lib.hid (at_lt hj1.out)
  clear hB3
  go_wp2_with fail
  refine (jHear_any b 2 3 4 5 mg0 mB _ hj3.out mB_ok).mono ?_
  rintro r w4 ⟨rfl, h4⟩
  rw [show decide ((5 : Int) ≤ mB.view) = false from rfl]
  replace h4 := h4.2 (by decide)
  have hj4 := Lib.hid (hj3.out.below h4)
  have hx4 := Lib.hid (at_below hx3.out h4)
  have hB4 := Lib.hid (hB3'.out.trans (h4.mono hB3'.out.size))
  clear h4 hj3 hx3 hB3'
  go_wp2_with fail
  refine (jGot_any b 2 3 4 5 mg0 false _ hj4.out).mono ?_
  rintro r w5 ⟨rfl, hb5⟩
  have hb6 := hb5.alloc hb5.size (mg0.box 30)
  have hj6 := hj4.out.below hb6
  have hx6 := at_below hx4.out hb6
  have hB6 := hB4.out.trans (hb6.mono hB4.out.size)
  obtain ⟨nm, hnm⟩ : ∃ nm, nm = w1.heap.size := ⟨_, rfl⟩
  rw [← hnm] at hx6
  have hne : ¬ nm = b := by have := hbx.out; omega
  replace hnm := Lib.hid hnm
  clear hb5 hb6 hj4 hx4 hB4
  replace hj6 := Lib.hid hj6
  replace hx6 := Lib.hid hx6
  replace hB6 := Lib.hid hB6
  go_upto_region 9 with (fail)
  rw [← hnm.out]
  generalize World.alloc w5 _ = w6 at hj6 hx6 hB6 ⊢
  have u0 := upF_cell (F := fun k => k = b) hne (cell_at hx6.out 0)
  have u1 := upF_cell (F := fun k => k = b) hne (cell_at hx6.out 1)
  have u2 := upF_cell (F := fun k => k = b) hne (cell_at hx6.out 2)
  have u3 := upF_cell (F := fun k => k = b) hne (cell_at hx6.out 3)
  have u4 := upF_cell (F := fun k => k = b) hne (cell_at hx6.out 4)
  have u5 := upF_cell (F := fun k => k = b) hne (cell_at hx6.out 5)
  have u6 := upF_cell (F := fun k => k = b) hne (cell_at hx6.out 6)
  have u7 := upF_cell (F := fun k => k = b) hne (cell_at hx6.out 7)
  have u8 := upF_cell (F := fun k => k = b) hne (cell_at hx6.out 8)
  have u9 := upF_cell (F := fun k => k = b) hne (cell_at hx6.out 9)
  have u10 := upF_cell (F := fun k => k = b) hne (cell_at hx6.out 10)
  have u11 := upF_cell (F := fun k => k = b) hne (cell_at hx6.out 11)
  have u12 := upF_cell (F := fun k => k = b) hne (cell_at hx6.out 12)
  refine wp_region_pc (fun k => k = b) w6 (.q 0 (.q 1 (.q 3 (.q 4 (.l 2 (.l 5 (.q 6 (.q 7 .fin)))))))) (by kernel_rfl) (by kernel_rfl) (Chg.refl _ _) ?_
  intro y0 hheap hy0 hyF
  clear hheap
  iterate 4 (refine pc_q rfl ?_; go_big_quiet_step (fail); refine wpQuiet_nil ?_)
  refine pc_l rfl (by kernel_rfl) ?_
  intro K hK
  go_simp
  refine (jHear_any b 2 3 4 5 mg0 mA _ (hj6.out.below hy0) mA_ok).mono ?_
  rintro r y1 ⟨rfl, h1⟩
  rw [show decide ((5 : Int) ≤ mA.view) = true from rfl]
  replace h1 := h1.1 (by decide)
  obtain ⟨hj7, hc7⟩ := h1
  have hy1 := hyF.more hc7 (fun i hi => .inl hi)
  replace hj7 := Lib.hid hj7
  refine hK _ _ hy1 ?_
  clear hK K hc7
  refine pc_l rfl (by kernel_rfl) ?_
  intro K hK
  go_simp
  refine (jHear_got b 2 3 4 5 mA mA _ hj7.out).mono ?_
  rintro r y2 ⟨rfl, hb8⟩
  have hy2 := hy1.on hb8
  have hj8 := hj7.out.below hb8
  refine hK _ _ hy2 ?_
  clear hK K hb8 hj7 hy1
  iterate 2 (refine pc_q rfl ?_; go_big_quiet_step (fail); refine wpQuiet_nil ?_)
  refine pc_fin ?_
  have hB8 := Lib.hid (hB6.out.trans (hy2.below hB6.out.size fun k hk => by have := hb.out; omega))
  replace hj8 := Lib.hid hj8
  clear u0 u1 u2 u3 u4 u5 u6 u7 u8 u9 u10 u11 u12 hy2 hyF hy0 hB6 hx6 hj6
  go_wp2_with fail
  refine (jGot_any b 2 3 4 5 mA true _ hj8.out).mono ?_
  rintro r w9 ⟨rfl, hb9⟩
  have hb10 := hb9.alloc hb9.size (mA.box 30)
  have hj10 := hj8.out.below hb10
  have hx10 := at_new w9 (mA.box 30)
  have hB10 := hB8.out.trans (hb10.mono hB8.out.size)
  obtain ⟨nx, hnx⟩ : ∃ nx, nx = w9.heap.size := ⟨_, rfl⟩
  rw [← hnx] at hx10
  replace hnx := Lib.hid hnx
  clear hb9 hb10 hj8 hB8
  replace hj10 := Lib.hid hj10
  replace hx10 := Lib.hid hx10
  replace hB10 := Lib.hid hB10
  have ha : asks 2 4 (askN 2 (Int.toNat 3)) = [askM 2 4 0, askM 2 4 2] := by kernel_rfl
  replace ha := Lib.hid ha
  go_wp2_with fail
  rw [← hnx.out]
  refine (jAsk_any b 2 3 4 5 mA true _ hj10.out (by omega) (by omega) (by omega)).mono ?_
  rintro r w11 ⟨v1, rfl, ho1, hb11⟩
  rw [ha.out] at ho1
  obtain ⟨a1, c1, rfl⟩ := ho1.rd.len
  rw [show [askM 2 4 0, askM 2 4 2].length = 2 from rfl]
  have hj11 := Lib.hid (hj10.out.below hb11)
  have hx11 := Lib.hid (at_below hx10.out hb11)
  have hB11 := Lib.hid (hB10.out.trans (hb11.mono hB10.out.size))
  clear ho1 hb11 hj10 hx10 hB10
  go_wp2_with fail
  refine (jAsk_any b 2 3 4 5 mA true _ hj11.out (by omega) (by omega) (by omega)).mono ?_
  rintro r w12 ⟨v2, rfl, ho2, hb12⟩
  rw [ha.out] at ho2
  obtain ⟨a2, c2, rfl, hm2, hM2, hx2⟩ := ho2.rd
  obtain ⟨g2, o2, rfl, hc2⟩ := hx2 (by simp)
  have k1 := (hc2 1 (by simp)).2.2.1
  rw [show [askM 2 4 0, askM 2 4 2].length = 2 from rfl] at hm2 ⊢
  simp only [Nat.one_mul, List.getElem_cons_succ, List.getElem_cons_zero, askM] at k1
  have hj12 := Lib.hid (hj11.out.below hb12)
  have hx12 := Lib.hid (at_below hx11.out hb12)
  have hB12 := Lib.hid (hB11.out.trans (hb12.mono hB11.out.size))
  clear ho2 hb12 hj11 hx11 hB11 hc2 hx2
  go_wp2_with fail
  refine (jAsk_any b 2 3 4 5 mA true _ hj12.out (by omega) (by omega) (by omega)).mono ?_
  rintro r w13 ⟨v3, rfl, ho3, hb13⟩
  rw [ha.out] at ho3
  obtain ⟨a3, c3, rfl, hm3, hM3, hx3⟩ := ho3.rd
  obtain ⟨g3, o3, rfl, hc3⟩ := hx3 (by simp)
  have k2 := (hc3 0 (by simp)).2.2.2.2.2.2.2.2.2.2.1
  rw [show [askM 2 4 0, askM 2 4 2].length = 2 from rfl] at hm3 ⊢
  simp only [Nat.zero_mul, Nat.add_zero, List.getElem_cons_zero, askM] at k2
  have hx13 := at_below hx12.out hb13
  have f4 := cell_at hx13 4
  simp only [List.getElem?_toArray, List.getElem?_cons_zero, List.getElem?_cons_succ] at f4
  have hB13 := Lib.hid (hB12.out.trans (hb13.mono hB12.out.size))
  clear ho3 hb13 hj12 hx12 hB12 hc3 hx3 k1
  replace hx13 := Lib.hid hx13
  go_wp2
  go_ret
  exact ⟨rfl, hB13.out⟩

end Go.Proofs.Ytacchkmdheglaaa
