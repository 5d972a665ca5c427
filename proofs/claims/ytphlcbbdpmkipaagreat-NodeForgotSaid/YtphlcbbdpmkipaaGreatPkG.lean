/- Lemmas of the proof: PkG. -/
import Derived.Test.YtphlcbbdpmkipaaGreatPkC
import Derived.Test.YtphlcbbdpmkipaaGreatPkB
import Derived.Deep.RegionLaw
import Derived.Deep.AppendLies
/- Messages without entries, and one that comes back: contracts. -/
namespace Go.Proofs.YtphlcbbdpmkipaaGreat
open Go.RowKit
set_option linter.unusedVariables false

/-- a message that has no entries -/
structure Mg where
  kind : Int
  frm : Int
  too : Int
  boot : Int
  view : Int
  last : Int
  mem : Int
  pos : Int
  com : Int
  num : Int
  clock : Int
  yes : Bool
abbrev mg0 : Mg := ⟨0, 0, 0, 0, 0, 0, 0, 0, 0, 0, 0, false⟩
abbrev Mg.cells (m : Mg) : List Value := [.int .i64 m.kind, .int .i64 m.frm, .int .i64 m.too, .int .i64 m.boot, .int .i64 m.view, .int .i64 m.last, .int .i64 m.mem, .int .i64 m.pos, .slice none 0 0, .int .i64 m.com, .int .i64 m.num, .int .i64 m.clock, .bool m.yes]
abbrev Mg.val (m : Mg) : Value := .agg #[.int .i64 m.kind, .int .i64 m.frm, .int .i64 m.too, .int .i64 m.boot, .int .i64 m.view, .int .i64 m.last, .int .i64 m.mem, .int .i64 m.pos, .slice none 0 0, .int .i64 m.com, .int .i64 m.num, .int .i64 m.clock, .bool m.yes]
abbrev Mg.box (m : Mg) (T : TypeId) : Obj := .cells #[.int .i64 m.kind, .int .i64 m.frm, .int .i64 m.too, .int .i64 m.boot, .int .i64 m.view, .int .i64 m.last, .int .i64 m.mem, .int .i64 m.pos, .slice none 0 0, .int .i64 m.com, .int .i64 m.num, .int .i64 m.clock, .bool m.yes] T

abbrev jnC (me n boot promise : Int) (m : Mg) (got : Bool) : Array Value := #[.int .i64 me, .int .i64 n, .int .i64 boot, .int .i64 promise, .int .i64 m.kind, .int .i64 m.frm, .int .i64 m.too, .int .i64 m.boot, .int .i64 m.view, .int .i64 m.last, .int .i64 m.mem, .int .i64 m.pos, .slice none 0 0, .int .i64 m.com, .int .i64 m.num, .int .i64 m.clock, .bool m.yes, .bool got]
/-- one that comes back, in memory -/
def jnO (w : World) (b : Nat) (me n boot promise : Int) (m : Mg) (got : Bool) : Prop := w.heap[b]? = some (.cells (jnC me n boot promise m got) 153 (0, 0))
theorem jnO.below {w w' : World} {b : Nat} {me n boot promise : Int} {m : Mg} {got : Bool} (h : jnO w b me n boot promise m got) (hb : Below w.heap.size w w') : jnO w' b me n boot promise m got := at_below h hb

set_option maxRecDepth 100000 in
set_option maxHeartbeats 400000 in
theorem jNew_ok (me n boot promise : Int) (w : World) (h3 : 3 ≤ n) (h7 : n ≤ 7) (hm : 1 ≤ me) (hmn : me ≤ n) (hb : 1 ≤ boot) (hb2 : boot ≤ 1099511627776) (hp : 0 ≤ promise) (hp2 : promise ≤ 1099511627776) :
    Calls Tryz.prog 46 #[.int .i64 me, .int .i64 n, .int .i64 boot, .int .i64 promise] w fun r w' => r = .returned (.pointer (some ⟨w.heap.size, 0, none⟩)) ∧ jnO w' w.heap.size me n boot promise mg0 false ∧ Below w.heap.size w w' := by
  have d : (decT 1 n == 0) = false := by
    have h1 : ¬ (n < 3 ∨ 7 < n) := by omega
    simp [decT, h1]
  go_enter Tryz.func46, Tryz.ntmps46
  go_wp2_with (go_at_call 40; refine (decider_any _ _ _ (by omega) (by omega)).mono ?_; rintro e w' ⟨rfl, rfl⟩)
  go_ret
  exact ⟨rfl, at_new _ _, (Below.refl _ _).alloc (Nat.le_refl _) _⟩
set_option maxRecDepth 100000 in
theorem jNew_bad1 (w : World) : Calls Tryz.prog 46 #[.int .i64 4, .int .i64 3, .int .i64 1, .int .i64 0] w fun r w' => r = .returned (.pointer none) ∧ w = w' := by
  have d : (decT 1 3 == 0) = false := by decide
  go_enter Tryz.func46, Tryz.ntmps46
  go_wp2_with (go_at_call 40; refine (decider_any _ _ _ (by omega) (by omega)).mono ?_; rintro e w' ⟨rfl, rfl⟩)
  go_ret
  exact ⟨rfl, rfl⟩
set_option maxRecDepth 100000 in
theorem jNew_bad2 (w : World) : Calls Tryz.prog 46 #[.int .i64 1, .int .i64 3, .int .i64 0, .int .i64 0] w fun r w' => r = .returned (.pointer none) ∧ w = w' := by
  have d : (decT 1 3 == 0) = false := by decide
  go_enter Tryz.func46, Tryz.ntmps46
  go_wp2_with (go_at_call 40; refine (decider_any _ _ _ (by omega) (by omega)).mono ?_; rintro e w' ⟨rfl, rfl⟩)
  go_ret
  exact ⟨rfl, rfl⟩

set_option maxRecDepth 100000 in
theorem sClone_nil (w : World) : Calls Tryz.prog 111 #[.slice none 0 0] w fun r w' => r = .returned (.slice none 0 0) ∧ Below w.heap.size w w' := by
  have hnil := fun (w : World) => Lib.run_eql_slice_nil (P := Tryz.prog) w 34 101 none 0 0 0 0 Tryz.underlying34
  go_enter Tryz.func111, Tryz.ntmps111
  go_wp2
  go_ret
  exact ⟨rfl, Below.refl _ _⟩

set_option maxRecDepth 100000 in
set_option maxHeartbeats 2000000 in
theorem jOwn_any (m : Mg) (w : World) : Calls Tryz.prog 176 #[m.val] w fun r w' => r = .returned m.val ∧ Below w.heap.size w w' := by
  simp only [Mg.val]
  obtain ⟨W1, hW1⟩ : ∃ W, W = (w.alloc (m.box 36)).alloc (mg0.box 36) := ⟨_, rfl⟩
  have hB1 : Below w.heap.size w W1 := hW1 ▸ ((Below.refl _ _).alloc (Nat.le_refl _) _).alloc (by simp) _
  have hx1 : W1.heap[w.heap.size]? = some (m.box 36) := hW1 ▸ at_old _ (at_new _ _)
  have hy1 : W1.heap[w.heap.size + 1]? = some (mg0.box 36) := by
    have := at_new (w.alloc (m.box 36)) (mg0.box 36)
    rw [← hW1] at this
    simpa using this
  have f8 := cell_at hx1 8
  simp only [List.getElem?_toArray, List.getElem?_cons_zero, List.getElem?_cons_succ] at f8
  replace hx1 := Lib.hid hx1
  replace hy1 := Lib.hid hy1
  replace hB1 := Lib.hid hB1
  obtain ⟨nb, hnb⟩ : ∃ nb, nb = w.heap.size := ⟨_, rfl⟩
  rw [← hnb] at hx1 hy1 f8
  go_enter Tryz.func176, Tryz.ntmps176
  go_upto_region 1 with (fail)
  rw [← hW1, ← hnb]
  clear hW1
  replace hnb := Lib.hid hnb
  go_wp2_with fail
  refine (sClone_nil _).mono ?_
  rintro r w2 ⟨rfl, hb2⟩
  have hx2 := at_below hx1.out hb2
  have hy2 := at_below hy1.out hb2
  have hB2 := hB1.out.trans (hb2.mono hB1.out.size)
  clear f8
  have f0 := cell_at hx2 0
  have f1 := cell_at hx2 1
  have f2 := cell_at hx2 2
  have f3 := cell_at hx2 3
  have f4 := cell_at hx2 4
  have f5 := cell_at hx2 5
  have f6 := cell_at hx2 6
  have f7 := cell_at hx2 7
  have f8 := cell_at hx2 8
  have f9 := cell_at hx2 9
  have f10 := cell_at hx2 10
  have f11 := cell_at hx2 11
  have f12 := cell_at hx2 12
  have g0 := cell_at hy2 0
  have g1 := cell_at hy2 1
  have g2 := cell_at hy2 2
  have g3 := cell_at hy2 3
  have g4 := cell_at hy2 4
  have g5 := cell_at hy2 5
  have g6 := cell_at hy2 6
  have g7 := cell_at hy2 7
  have g8 := cell_at hy2 8
  have g9 := cell_at hy2 9
  have g10 := cell_at hy2 10
  have g11 := cell_at hy2 11
  have g12 := cell_at hy2 12
  have z8 := free_at hx2 8
  have t0 := free_at hy2 0
  have t1 := free_at hy2 1
  have t2 := free_at hy2 2
  have t3 := free_at hy2 3
  have t4 := free_at hy2 4
  have t5 := free_at hy2 5
  have t6 := free_at hy2 6
  have t7 := free_at hy2 7
  have t8 := free_at hy2 8
  have t9 := free_at hy2 9
  have t10 := free_at hy2 10
  have t11 := free_at hy2 11
  have t12 := free_at hy2 12
  simp only [List.getElem?_toArray, List.getElem?_cons_zero, List.getElem?_cons_succ] at f0 f1 f2 f3 f4 f5 f6 f7 f8 f9 f10 f11 f12 g0 g1 g2 g3 g4 g5 g6 g7 g8 g9 g10 g11 g12
  have hl2 := at_lt hy2
  have hl1 := at_lt hx2
  have hge : w.heap.size ≤ nb := Nat.le_of_eq hnb.out.symm
  have hge2 : w.heap.size ≤ nb + 1 := by omega
  have hfin : ∀ a0 a1 a2 a3 a4 a5 a6 a7 a8 a9 a10 a11 a12 a13, Below w.heap.size w (((((((((((((((w2.setCell ⟨nb, 8, none⟩ a0).setCell ⟨nb + 1, 0, none⟩ a1).setCell ⟨nb + 1, 1, none⟩ a2).setCell ⟨nb + 1, 2, none⟩ a3).setCell ⟨nb + 1, 3, none⟩ a4).setCell ⟨nb + 1, 4, none⟩ a5).setCell ⟨nb + 1, 5, none⟩ a6).setCell ⟨nb + 1, 6, none⟩ a7).setCell ⟨nb + 1, 7, none⟩ a8).setCell ⟨nb + 1, 8, none⟩ a9).setCell ⟨nb + 1, 9, none⟩ a10).setCell ⟨nb + 1, 10, none⟩ a11).setCell ⟨nb + 1, 11, none⟩ a12).setCell ⟨nb + 1, 12, none⟩ a13)) := by
    intro a0 a1 a2 a3 a4 a5 a6 a7 a8 a9 a10 a11 a12 a13
    exact (((((((((((((hB2.setCell hge a0).setCell hge2 a1).setCell hge2 a2).setCell hge2 a3).setCell hge2 a4).setCell hge2 a5).setCell hge2 a6).setCell hge2 a7).setCell hge2 a8).setCell hge2 a9).setCell hge2 a10).setCell hge2 a11).setCell hge2 a12).setCell hge2 a13
  clear hB2 hb2
  replace hfin := Lib.hid hfin
  replace hx2 := Lib.hid hx2
  replace hy2 := Lib.hid hy2
  go_wp2
  exact bodyPost_ret (v := m.val) (by simp [results, Tryz.results176, go_sem, g0, g1, g2, g3, g4, g5, g6, g7, g8, g9, g10, g11, g12]) rfl ⟨rfl, hfin.out _ _ _ _ _ _ _ _ _ _ _ _ _ _⟩

end Go.Proofs.YtphlcbbdpmkipaaGreat
/- One that comes back: what may be taken. -/
namespace Go.Proofs.YtphlcbbdpmkipaaGreat
open Go.RowKit
set_option linter.unusedVariables false

theorem rdE_nil1 (w : World) : rdE w (.slice none 0 0) [] := ⟨none, 0, rfl, Nat.zero_le _, Nat.zero_le _, fun h => by simp at h⟩

set_option maxRecDepth 100000 in
set_option maxHeartbeats 4000000 in
theorem jMay_any (b : Nat) (me n boot promise : Int) (m0 : Mg) (got : Bool) (m : Mg) (w : World) (hj : jnO w b me n boot promise m0 got)
    (hk : m.kind = 11) (ht : m.too = me) (hy : m.yes = true) (hn : m.num = boot) (hf : m.frm = decT m.view n) (hv1 : 1 ≤ m.view) (hv2 : m.view ≤ 9223372036854775807) (hm0 : 0 ≤ m.mem ∧ m.mem < 128) (hmo : mostT m.mem n = true) (hha : hasT m.mem.toNat m.frm = true) (hc : m.com = 0) :
    Calls Tryz.prog 175 #[.pointer (some ⟨b, 0, none⟩), m.val] w fun r w' => r = .returned (.bool (decide (promise ≤ m.view))) ∧ Below w.heap.size w w' := by
  obtain ⟨kind, frm, too, mboot, view, last, mem, pos, com, num, clock, yes⟩ := m
  dsimp only at hk ht hy hn hf hv1 hv2 hm0 hmo hha hc
  subst hk ht hy hn hc
  simp only [Mg.val]
  obtain ⟨M, hM⟩ : ∃ M, M = (⟨11, frm, too, mboot, view, last, mem, pos, 0, num, clock, true⟩ : Mg) := ⟨_, rfl⟩
  obtain ⟨W1, hW1⟩ : ∃ W, W = w.alloc (Mg.box ⟨11, frm, too, mboot, view, last, mem, pos, 0, num, clock, true⟩ 36) := ⟨_, rfl⟩
  have hB1 : Below w.heap.size w W1 := hW1 ▸ (Below.refl _ _).alloc (Nat.le_refl _) _
  have hx1 : W1.heap[w.heap.size]? = some (Mg.box ⟨11, frm, too, mboot, view, last, mem, pos, 0, num, clock, true⟩ 36) := hW1 ▸ at_new _ _
  have hj1 := hj.below hB1
  unfold jnO at hj1
  have f0 := cell_at hx1 0
  have f1 := cell_at hx1 1
  have f2 := cell_at hx1 2
  have f4 := cell_at hx1 4
  have f6 := cell_at hx1 6
  have f8 := cell_at hx1 8
  have f9 := cell_at hx1 9
  have f10 := cell_at hx1 10
  have f12 := cell_at hx1 12
  have e0 := cell_at hj1 0
  have e1 := cell_at hj1 1
  have e2 := cell_at hj1 2
  have e3 := cell_at hj1 3
  simp only [List.getElem?_toArray, List.getElem?_cons_zero, List.getElem?_cons_succ] at f0 f1 f2 f4 f6 f8 f9 f10 f12
  simp only [List.getElem?_toArray, List.getElem?_cons_zero, List.getElem?_cons_succ] at e0 e1 e2 e3
  replace hx1 := Lib.hid hx1
  replace hj1 := Lib.hid hj1
  replace hB1 := Lib.hid hB1
  replace hf := Lib.hid hf
  clear hj
  clear M hM
  obtain ⟨nb, hnb⟩ : ∃ nb, nb = w.heap.size := ⟨_, rfl⟩
  rw [← hnb] at hx1 f0 f1 f2 f4 f6 f8 f9 f10 f12
  have HD : Hid (∀ y, Calls Tryz.prog 40 #[.int .i64 view, .int .i64 n] (upTo W1 y) fun r w' => r = .returned (.int .i64 frm) ∧ ∃ z, w' = upTo W1 z) := Lib.hid fun y => by rw [hf.out]; exact call_up_eq (decider_any view n _ (by omega) hv2)
  go_enter Tryz.func175, Tryz.ntmps175
  go_upto_region 1 with (fail)
  rw [← hW1, ← hnb]
  clear hW1
  replace hnb := Lib.hid hnb

  have u0 := upTo_cell f0
  have u1 := upTo_cell f1
  have u2 := upTo_cell f2
  have u4 := upTo_cell f4
  have u6 := upTo_cell f6
  have u8 := upTo_cell f8
  have u9 := upTo_cell f9
  have u10 := upTo_cell f10
  have u12 := upTo_cell f12
  have v0 := upTo_cell e0
  have v1 := upTo_cell e1
  have v2 := upTo_cell e2
  have v3 := upTo_cell e3
  replace hmo := Lib.hid hmo
  replace hha := Lib.hid hha
  replace hm0 := Lib.hid hm0
  by_cases hp : promise < 1
  · have hlt : decide (view < 1) = false := by simp; omega
    refine wp_region_up (by kernel_rfl) (by kernel_rfl) ?_
    repeat (go_big_quiet_step ((go_at_call 40; exact HD.out _)))
    refine wpQuiet_nil ?_
    intro w2 hw2
    have hb2 := up_below hw2
    clear hw2 u0 u1 u2 u4 u6 u8 u9 u10 u12 v0 v1 v2 v3
    have hB2 := hB1.out.trans (hb2.mono hB1.out.size)
    have k0 := at_below hx1.out hb2
    have k1 := at_below hj1.out hb2
    have q1 := cell_at k0 1
    have q6 := cell_at k0 6
    have q8 := cell_at k0 8
    have q9 := cell_at k0 9
    have p1 := cell_at k1 1
    simp only [List.getElem?_toArray, List.getElem?_cons_zero, List.getElem?_cons_succ] at q1 q6 q8 q9
    simp only [List.getElem?_toArray, List.getElem?_cons_zero, List.getElem?_cons_succ] at p1
    clear f0 f1 f2 f4 f6 f8 f9 f10 f12 e0 e1 e2 e3
    replace k0 := Lib.hid k0
    replace k1 := Lib.hid k1
    go_upto_region 4 with (fail)
    have r1 := upTo_cell q1
    have r6 := upTo_cell q6
    have r8 := upTo_cell q8
    have r9 := upTo_cell q9
    have o1 := upTo_cell p1
    refine wp_region_pl w2 (.q 0 (.q 1 (.q 2 (.q 3 (.q 4 (.l 5 (.q 6 (.q 7 (.q 8 (.q 9 (.l 10 (.q 11 (.q 12 (.q 13 (.q 14 (.q 17 (.q 18 (.q 19 (.l 15 (.l 16 (.q 20 (.q 21 (.q 22 (.q 23 (.q 24 (.q 25 (.q 26 (.q 27 (.q 28 (.q 29 (.q 30 .fin))))))))))))))))))))))))))))))) (by kernel_rfl) (by kernel_rfl) (Below.refl _ _) ?_
    intro y0 hheap hv0 hbw
    clear hheap hbw
    iterate 5 (refine pl_q rfl ?_; go_big_quiet_step (fail); refine wpQuiet_nil ?_)
    refine pl_l rfl (by kernel_rfl) ?_
    intro K hK
    go_simp
    refine (most_any mem n _).mono ?_
    rintro r y1 ⟨rfl, rfl⟩
    rw [hmo.out]
    refine hK w2 _ _ (Below.refl _ _) hv0 ?_
    clear hK K
    iterate 4 (refine pl_q rfl ?_; go_big_quiet_step (fail); refine wpQuiet_nil ?_)
    refine pl_l rfl (by kernel_rfl) ?_
    intro K hK
    go_simp
    refine (has_any mem frm _ hm0.out).mono ?_
    rintro r y1 ⟨rfl, rfl⟩
    rw [hha.out]
    refine hK w2 _ _ (Below.refl _ _) hv0 ?_
    clear hK K
    iterate 7 (refine pl_q rfl ?_; go_big_quiet_step (fail); refine wpQuiet_nil ?_)
    refine pl_l rfl (by kernel_rfl) ?_
    intro K hK
    go_simp
    refine (logNew_any _ [] _ (rdE_nil1 _)).mono ?_
    rintro r y1 ⟨bl, rfl, hbl, hlg, hbb⟩
    have hv1' := hv0.trans (hbb.mono hv0.size)
    have hlr := Lib.hid hlg.rd
    refine hK w2 _ _ (Below.refl _ _) hv1' ?_
    clear hK K hbb hlg hbl
    refine pl_l rfl (by kernel_rfl) ?_
    intro K hK
    go_simp
    refine (logLen_any bl _ _ hlr.out).mono ?_
    rintro r y2 ⟨rfl, rfl⟩
    rw [show ((logE []).length : Int) = 0 from rfl]
    refine hK w2 _ _ (Below.refl _ _) hv1' ?_
    clear hK K
    iterate 11 (refine pl_q rfl ?_; go_big_quiet_step (fail); refine wpQuiet_nil ?_)
    refine pl_fin ?_
    go_wp2_with fail
    go_ret
    exact ⟨ret_bool (by simp <;> omega), hB2.trans (hv1'.mono hB2.size)⟩

  · by_cases hv : view < promise
    · have hlt : decide (view < promise) = true := by simpa using hv
      refine wp_region_up (by kernel_rfl) (by kernel_rfl) ?_
      repeat (go_big_quiet_step ((go_at_call 40; exact HD.out _)))
      refine wpQuiet_nil ?_
      intro w2 hw2
      have hb2 := up_below hw2
      clear hw2 u0 u1 u2 u4 u6 u8 u9 u10 u12 v0 v1 v2 v3
      have hB2 := hB1.out.trans (hb2.mono hB1.out.size)
      go_wp2
      go_ret
      exact ⟨ret_bool (by simp <;> omega), hB2⟩
    · have hlt : decide (view < promise) = false := by simpa using hv
      refine wp_region_up (by kernel_rfl) (by kernel_rfl) ?_
      repeat (go_big_quiet_step ((go_at_call 40; exact HD.out _)))
      refine wpQuiet_nil ?_
      intro w2 hw2
      have hb2 := up_below hw2
      clear hw2 u0 u1 u2 u4 u6 u8 u9 u10 u12 v0 v1 v2 v3
      have hB2 := hB1.out.trans (hb2.mono hB1.out.size)
      have k0 := at_below hx1.out hb2
      have k1 := at_below hj1.out hb2
      have q1 := cell_at k0 1
      have q6 := cell_at k0 6
      have q8 := cell_at k0 8
      have q9 := cell_at k0 9
      have p1 := cell_at k1 1
      simp only [List.getElem?_toArray, List.getElem?_cons_zero, List.getElem?_cons_succ] at q1 q6 q8 q9
      simp only [List.getElem?_toArray, List.getElem?_cons_zero, List.getElem?_cons_succ] at p1
      clear f0 f1 f2 f4 f6 f8 f9 f10 f12 e0 e1 e2 e3
      replace k0 := Lib.hid k0
      replace k1 := Lib.hid k1
      go_upto_region 4 with (fail)
      have r1 := upTo_cell q1
      have r6 := upTo_cell q6
      have r8 := upTo_cell q8
      have r9 := upTo_cell q9
      have o1 := upTo_cell p1
      refine wp_region_pl w2 (.q 0 (.q 1 (.q 2 (.q 3 (.q 4 (.l 5 (.q 6 (.q 7 (.q 8 (.q 9 (.l 10 (.q 11 (.q 12 (.q 13 (.q 14 (.q 17 (.q 18 (.q 19 (.l 15 (.l 16 (.q 20 (.q 21 (.q 22 (.q 23 (.q 24 (.q 25 (.q 26 (.q 27 (.q 28 (.q 29 (.q 30 .fin))))))))))))))))))))))))))))))) (by kernel_rfl) (by kernel_rfl) (Below.refl _ _) ?_
      intro y0 hheap hv0 hbw
      clear hheap hbw
      iterate 5 (refine pl_q rfl ?_; go_big_quiet_step (fail); refine wpQuiet_nil ?_)
      refine pl_l rfl (by kernel_rfl) ?_
      intro K hK
      go_simp
      refine (most_any mem n _).mono ?_
      rintro r y1 ⟨rfl, rfl⟩
      rw [hmo.out]
      refine hK w2 _ _ (Below.refl _ _) hv0 ?_
      clear hK K
      iterate 4 (refine pl_q rfl ?_; go_big_quiet_step (fail); refine wpQuiet_nil ?_)
      refine pl_l rfl (by kernel_rfl) ?_
      intro K hK
      go_simp
      refine (has_any mem frm _ hm0.out).mono ?_
      rintro r y1 ⟨rfl, rfl⟩
      rw [hha.out]
      refine hK w2 _ _ (Below.refl _ _) hv0 ?_
      clear hK K
      iterate 7 (refine pl_q rfl ?_; go_big_quiet_step (fail); refine wpQuiet_nil ?_)
      refine pl_l rfl (by kernel_rfl) ?_
      intro K hK
      go_simp
      refine (logNew_any _ [] _ (rdE_nil1 _)).mono ?_
      rintro r y1 ⟨bl, rfl, hbl, hlg, hbb⟩
      have hv1' := hv0.trans (hbb.mono hv0.size)
      have hlr := Lib.hid hlg.rd
      refine hK w2 _ _ (Below.refl _ _) hv1' ?_
      clear hK K hbb hlg hbl
      refine pl_l rfl (by kernel_rfl) ?_
      intro K hK
      go_simp
      refine (logLen_any bl _ _ hlr.out).mono ?_
      rintro r y2 ⟨rfl, rfl⟩
      rw [show ((logE []).length : Int) = 0 from rfl]
      refine hK w2 _ _ (Below.refl _ _) hv1' ?_
      clear hK K
      iterate 11 (refine pl_q rfl ?_; go_big_quiet_step (fail); refine wpQuiet_nil ?_)
      refine pl_fin ?_
      go_wp2_with fail
      go_ret
      exact ⟨ret_bool (by simp <;> omega), hB2.trans (hv1'.mono hB2.size)⟩

end Go.Proofs.YtphlcbbdpmkipaaGreat
/- One that comes back: it hears, tells, asks. -/
namespace Go.Proofs.YtphlcbbdpmkipaaGreat
open Go.RowKit
set_option linter.unusedVariables false

set_option maxHeartbeats 2000000 in
theorem jn_set {w : World} {b : Nat} {me n boot promise : Int} {m0 m : Mg} {got : Bool} (h : jnO w b me n boot promise m0 got) :
    jnO ((((((((((((((w.setCell ⟨b, 4, none⟩ (.int .i64 m.kind)).setCell ⟨b, 5, none⟩ (.int .i64 m.frm)).setCell ⟨b, 6, none⟩ (.int .i64 m.too)).setCell ⟨b, 7, none⟩ (.int .i64 m.boot)).setCell ⟨b, 8, none⟩ (.int .i64 m.view)).setCell ⟨b, 9, none⟩ (.int .i64 m.last)).setCell ⟨b, 10, none⟩ (.int .i64 m.mem)).setCell ⟨b, 11, none⟩ (.int .i64 m.pos)).setCell ⟨b, 12, none⟩ (.slice none 0 0)).setCell ⟨b, 13, none⟩ (.int .i64 m.com)).setCell ⟨b, 14, none⟩ (.int .i64 m.num)).setCell ⟨b, 15, none⟩ (.int .i64 m.clock)).setCell ⟨b, 16, none⟩ (.bool m.yes)).setCell ⟨b, 17, none⟩ (.bool true)) b me n boot promise m true ∧ Chg (fun k => k = b) w ((((((((((((((w.setCell ⟨b, 4, none⟩ (.int .i64 m.kind)).setCell ⟨b, 5, none⟩ (.int .i64 m.frm)).setCell ⟨b, 6, none⟩ (.int .i64 m.too)).setCell ⟨b, 7, none⟩ (.int .i64 m.boot)).setCell ⟨b, 8, none⟩ (.int .i64 m.view)).setCell ⟨b, 9, none⟩ (.int .i64 m.last)).setCell ⟨b, 10, none⟩ (.int .i64 m.mem)).setCell ⟨b, 11, none⟩ (.int .i64 m.pos)).setCell ⟨b, 12, none⟩ (.slice none 0 0)).setCell ⟨b, 13, none⟩ (.int .i64 m.com)).setCell ⟨b, 14, none⟩ (.int .i64 m.num)).setCell ⟨b, 15, none⟩ (.int .i64 m.clock)).setCell ⟨b, 16, none⟩ (.bool m.yes)).setCell ⟨b, 17, none⟩ (.bool true)) := by
  unfold jnO at h ⊢
  have h1 : ((w.setCell ⟨b, 4, none⟩ (.int .i64 m.kind))).heap[b]? = some (.cells #[.int .i64 me, .int .i64 n, .int .i64 boot, .int .i64 promise, .int .i64 m.kind, .int .i64 m0.frm, .int .i64 m0.too, .int .i64 m0.boot, .int .i64 m0.view, .int .i64 m0.last, .int .i64 m0.mem, .int .i64 m0.pos, .slice none 0 0, .int .i64 m0.com, .int .i64 m0.num, .int .i64 m0.clock, .bool m0.yes, .bool got] 153 (0, 0)) := set_at h
  have h2 : (((w.setCell ⟨b, 4, none⟩ (.int .i64 m.kind)).setCell ⟨b, 5, none⟩ (.int .i64 m.frm))).heap[b]? = some (.cells #[.int .i64 me, .int .i64 n, .int .i64 boot, .int .i64 promise, .int .i64 m.kind, .int .i64 m.frm, .int .i64 m0.too, .int .i64 m0.boot, .int .i64 m0.view, .int .i64 m0.last, .int .i64 m0.mem, .int .i64 m0.pos, .slice none 0 0, .int .i64 m0.com, .int .i64 m0.num, .int .i64 m0.clock, .bool m0.yes, .bool got] 153 (0, 0)) := set_at h1
  have h3 : ((((w.setCell ⟨b, 4, none⟩ (.int .i64 m.kind)).setCell ⟨b, 5, none⟩ (.int .i64 m.frm)).setCell ⟨b, 6, none⟩ (.int .i64 m.too))).heap[b]? = some (.cells #[.int .i64 me, .int .i64 n, .int .i64 boot, .int .i64 promise, .int .i64 m.kind, .int .i64 m.frm, .int .i64 m.too, .int .i64 m0.boot, .int .i64 m0.view, .int .i64 m0.last, .int .i64 m0.mem, .int .i64 m0.pos, .slice none 0 0, .int .i64 m0.com, .int .i64 m0.num, .int .i64 m0.clock, .bool m0.yes, .bool got] 153 (0, 0)) := set_at h2
  have h4 : (((((w.setCell ⟨b, 4, none⟩ (.int .i64 m.kind)).setCell ⟨b, 5, none⟩ (.int .i64 m.frm)).setCell ⟨b, 6, none⟩ (.int .i64 m.too)).setCell ⟨b, 7, none⟩ (.int .i64 m.boot))).heap[b]? = some (.cells #[.int .i64 me, .int .i64 n, .int .i64 boot, .int .i64 promise, .int .i64 m.kind, .int .i64 m.frm, .int .i64 m.too, .int .i64 m.boot, .int .i64 m0.view, .int .i64 m0.last, .int .i64 m0.mem, .int .i64 m0.pos, .slice none 0 0, .int .i64 m0.com, .int .i64 m0.num, .int .i64 m0.clock, .bool m0.yes, .bool got] 153 (0, 0)) := set_at h3
  have h5 : ((((((w.setCell ⟨b, 4, none⟩ (.int .i64 m.kind)).setCell ⟨b, 5, none⟩ (.int .i64 m.frm)).setCell ⟨b, 6, none⟩ (.int .i64 m.too)).setCell ⟨b, 7, none⟩ (.int .i64 m.boot)).setCell ⟨b, 8, none⟩ (.int .i64 m.view))).heap[b]? = some (.cells #[.int .i64 me, .int .i64 n, .int .i64 boot, .int .i64 promise, .int .i64 m.kind, .int .i64 m.frm, .int .i64 m.too, .int .i64 m.boot, .int .i64 m.view, .int .i64 m0.last, .int .i64 m0.mem, .int .i64 m0.pos, .slice none 0 0, .int .i64 m0.com, .int .i64 m0.num, .int .i64 m0.clock, .bool m0.yes, .bool got] 153 (0, 0)) := set_at h4
  have h6 : (((((((w.setCell ⟨b, 4, none⟩ (.int .i64 m.kind)).setCell ⟨b, 5, none⟩ (.int .i64 m.frm)).setCell ⟨b, 6, none⟩ (.int .i64 m.too)).setCell ⟨b, 7, none⟩ (.int .i64 m.boot)).setCell ⟨b, 8, none⟩ (.int .i64 m.view)).setCell ⟨b, 9, none⟩ (.int .i64 m.last))).heap[b]? = some (.cells #[.int .i64 me, .int .i64 n, .int .i64 boot, .int .i64 promise, .int .i64 m.kind, .int .i64 m.frm, .int .i64 m.too, .int .i64 m.boot, .int .i64 m.view, .int .i64 m.last, .int .i64 m0.mem, .int .i64 m0.pos, .slice none 0 0, .int .i64 m0.com, .int .i64 m0.num, .int .i64 m0.clock, .bool m0.yes, .bool got] 153 (0, 0)) := set_at h5
  have h7 : ((((((((w.setCell ⟨b, 4, none⟩ (.int .i64 m.kind)).setCell ⟨b, 5, none⟩ (.int .i64 m.frm)).setCell ⟨b, 6, none⟩ (.int .i64 m.too)).setCell ⟨b, 7, none⟩ (.int .i64 m.boot)).setCell ⟨b, 8, none⟩ (.int .i64 m.view)).setCell ⟨b, 9, none⟩ (.int .i64 m.last)).setCell ⟨b, 10, none⟩ (.int .i64 m.mem))).heap[b]? = some (.cells #[.int .i64 me, .int .i64 n, .int .i64 boot, .int .i64 promise, .int .i64 m.kind, .int .i64 m.frm, .int .i64 m.too, .int .i64 m.boot, .int .i64 m.view, .int .i64 m.last, .int .i64 m.mem, .int .i64 m0.pos, .slice none 0 0, .int .i64 m0.com, .int .i64 m0.num, .int .i64 m0.clock, .bool m0.yes, .bool got] 153 (0, 0)) := set_at h6
  have h8 : (((((((((w.setCell ⟨b, 4, none⟩ (.int .i64 m.kind)).setCell ⟨b, 5, none⟩ (.int .i64 m.frm)).setCell ⟨b, 6, none⟩ (.int .i64 m.too)).setCell ⟨b, 7, none⟩ (.int .i64 m.boot)).setCell ⟨b, 8, none⟩ (.int .i64 m.view)).setCell ⟨b, 9, none⟩ (.int .i64 m.last)).setCell ⟨b, 10, none⟩ (.int .i64 m.mem)).setCell ⟨b, 11, none⟩ (.int .i64 m.pos))).heap[b]? = some (.cells #[.int .i64 me, .int .i64 n, .int .i64 boot, .int .i64 promise, .int .i64 m.kind, .int .i64 m.frm, .int .i64 m.too, .int .i64 m.boot, .int .i64 m.view, .int .i64 m.last, .int .i64 m.mem, .int .i64 m.pos, .slice none 0 0, .int .i64 m0.com, .int .i64 m0.num, .int .i64 m0.clock, .bool m0.yes, .bool got] 153 (0, 0)) := set_at h7
  have h9 : ((((((((((w.setCell ⟨b, 4, none⟩ (.int .i64 m.kind)).setCell ⟨b, 5, none⟩ (.int .i64 m.frm)).setCell ⟨b, 6, none⟩ (.int .i64 m.too)).setCell ⟨b, 7, none⟩ (.int .i64 m.boot)).setCell ⟨b, 8, none⟩ (.int .i64 m.view)).setCell ⟨b, 9, none⟩ (.int .i64 m.last)).setCell ⟨b, 10, none⟩ (.int .i64 m.mem)).setCell ⟨b, 11, none⟩ (.int .i64 m.pos)).setCell ⟨b, 12, none⟩ (.slice none 0 0))).heap[b]? = some (.cells #[.int .i64 me, .int .i64 n, .int .i64 boot, .int .i64 promise, .int .i64 m.kind, .int .i64 m.frm, .int .i64 m.too, .int .i64 m.boot, .int .i64 m.view, .int .i64 m.last, .int .i64 m.mem, .int .i64 m.pos, .slice none 0 0, .int .i64 m0.com, .int .i64 m0.num, .int .i64 m0.clock, .bool m0.yes, .bool got] 153 (0, 0)) := set_at h8
  have h10 : (((((((((((w.setCell ⟨b, 4, none⟩ (.int .i64 m.kind)).setCell ⟨b, 5, none⟩ (.int .i64 m.frm)).setCell ⟨b, 6, none⟩ (.int .i64 m.too)).setCell ⟨b, 7, none⟩ (.int .i64 m.boot)).setCell ⟨b, 8, none⟩ (.int .i64 m.view)).setCell ⟨b, 9, none⟩ (.int .i64 m.last)).setCell ⟨b, 10, none⟩ (.int .i64 m.mem)).setCell ⟨b, 11, none⟩ (.int .i64 m.pos)).setCell ⟨b, 12, none⟩ (.slice none 0 0)).setCell ⟨b, 13, none⟩ (.int .i64 m.com))).heap[b]? = some (.cells #[.int .i64 me, .int .i64 n, .int .i64 boot, .int .i64 promise, .int .i64 m.kind, .int .i64 m.frm, .int .i64 m.too, .int .i64 m.boot, .int .i64 m.view, .int .i64 m.last, .int .i64 m.mem, .int .i64 m.pos, .slice none 0 0, .int .i64 m.com, .int .i64 m0.num, .int .i64 m0.clock, .bool m0.yes, .bool got] 153 (0, 0)) := set_at h9
  have h11 : ((((((((((((w.setCell ⟨b, 4, none⟩ (.int .i64 m.kind)).setCell ⟨b, 5, none⟩ (.int .i64 m.frm)).setCell ⟨b, 6, none⟩ (.int .i64 m.too)).setCell ⟨b, 7, none⟩ (.int .i64 m.boot)).setCell ⟨b, 8, none⟩ (.int .i64 m.view)).setCell ⟨b, 9, none⟩ (.int .i64 m.last)).setCell ⟨b, 10, none⟩ (.int .i64 m.mem)).setCell ⟨b, 11, none⟩ (.int .i64 m.pos)).setCell ⟨b, 12, none⟩ (.slice none 0 0)).setCell ⟨b, 13, none⟩ (.int .i64 m.com)).setCell ⟨b, 14, none⟩ (.int .i64 m.num))).heap[b]? = some (.cells #[.int .i64 me, .int .i64 n, .int .i64 boot, .int .i64 promise, .int .i64 m.kind, .int .i64 m.frm, .int .i64 m.too, .int .i64 m.boot, .int .i64 m.view, .int .i64 m.last, .int .i64 m.mem, .int .i64 m.pos, .slice none 0 0, .int .i64 m.com, .int .i64 m.num, .int .i64 m0.clock, .bool m0.yes, .bool got] 153 (0, 0)) := set_at h10
  have h12 : (((((((((((((w.setCell ⟨b, 4, none⟩ (.int .i64 m.kind)).setCell ⟨b, 5, none⟩ (.int .i64 m.frm)).setCell ⟨b, 6, none⟩ (.int .i64 m.too)).setCell ⟨b, 7, none⟩ (.int .i64 m.boot)).setCell ⟨b, 8, none⟩ (.int .i64 m.view)).setCell ⟨b, 9, none⟩ (.int .i64 m.last)).setCell ⟨b, 10, none⟩ (.int .i64 m.mem)).setCell ⟨b, 11, none⟩ (.int .i64 m.pos)).setCell ⟨b, 12, none⟩ (.slice none 0 0)).setCell ⟨b, 13, none⟩ (.int .i64 m.com)).setCell ⟨b, 14, none⟩ (.int .i64 m.num)).setCell ⟨b, 15, none⟩ (.int .i64 m.clock))).heap[b]? = some (.cells #[.int .i64 me, .int .i64 n, .int .i64 boot, .int .i64 promise, .int .i64 m.kind, .int .i64 m.frm, .int .i64 m.too, .int .i64 m.boot, .int .i64 m.view, .int .i64 m.last, .int .i64 m.mem, .int .i64 m.pos, .slice none 0 0, .int .i64 m.com, .int .i64 m.num, .int .i64 m.clock, .bool m0.yes, .bool got] 153 (0, 0)) := set_at h11
  have h13 : ((((((((((((((w.setCell ⟨b, 4, none⟩ (.int .i64 m.kind)).setCell ⟨b, 5, none⟩ (.int .i64 m.frm)).setCell ⟨b, 6, none⟩ (.int .i64 m.too)).setCell ⟨b, 7, none⟩ (.int .i64 m.boot)).setCell ⟨b, 8, none⟩ (.int .i64 m.view)).setCell ⟨b, 9, none⟩ (.int .i64 m.last)).setCell ⟨b, 10, none⟩ (.int .i64 m.mem)).setCell ⟨b, 11, none⟩ (.int .i64 m.pos)).setCell ⟨b, 12, none⟩ (.slice none 0 0)).setCell ⟨b, 13, none⟩ (.int .i64 m.com)).setCell ⟨b, 14, none⟩ (.int .i64 m.num)).setCell ⟨b, 15, none⟩ (.int .i64 m.clock)).setCell ⟨b, 16, none⟩ (.bool m.yes))).heap[b]? = some (.cells #[.int .i64 me, .int .i64 n, .int .i64 boot, .int .i64 promise, .int .i64 m.kind, .int .i64 m.frm, .int .i64 m.too, .int .i64 m.boot, .int .i64 m.view, .int .i64 m.last, .int .i64 m.mem, .int .i64 m.pos, .slice none 0 0, .int .i64 m.com, .int .i64 m.num, .int .i64 m.clock, .bool m.yes, .bool got] 153 (0, 0)) := set_at h12
  have h14 : (((((((((((((((w.setCell ⟨b, 4, none⟩ (.int .i64 m.kind)).setCell ⟨b, 5, none⟩ (.int .i64 m.frm)).setCell ⟨b, 6, none⟩ (.int .i64 m.too)).setCell ⟨b, 7, none⟩ (.int .i64 m.boot)).setCell ⟨b, 8, none⟩ (.int .i64 m.view)).setCell ⟨b, 9, none⟩ (.int .i64 m.last)).setCell ⟨b, 10, none⟩ (.int .i64 m.mem)).setCell ⟨b, 11, none⟩ (.int .i64 m.pos)).setCell ⟨b, 12, none⟩ (.slice none 0 0)).setCell ⟨b, 13, none⟩ (.int .i64 m.com)).setCell ⟨b, 14, none⟩ (.int .i64 m.num)).setCell ⟨b, 15, none⟩ (.int .i64 m.clock)).setCell ⟨b, 16, none⟩ (.bool m.yes)).setCell ⟨b, 17, none⟩ (.bool true))).heap[b]? = some (.cells #[.int .i64 me, .int .i64 n, .int .i64 boot, .int .i64 promise, .int .i64 m.kind, .int .i64 m.frm, .int .i64 m.too, .int .i64 m.boot, .int .i64 m.view, .int .i64 m.last, .int .i64 m.mem, .int .i64 m.pos, .slice none 0 0, .int .i64 m.com, .int .i64 m.num, .int .i64 m.clock, .bool m.yes, .bool true] 153 (0, 0)) := set_at h13
  refine ⟨h14, ?_⟩
  exact chg_set (chg_set (chg_set (chg_set (chg_set (chg_set (chg_set (chg_set (chg_set (chg_set (chg_set (chg_set (chg_set (chg_set (Chg.refl _ _) rfl) rfl) rfl) rfl) rfl) rfl) rfl) rfl) rfl) rfl) rfl) rfl) rfl) rfl

set_option maxRecDepth 100000 in
set_option maxHeartbeats 2000000 in
theorem jHear_got (b : Nat) (me n boot promise : Int) (m0 m : Mg) (w : World) (hj : jnO w b me n boot promise m0 true) :
    Calls Tryz.prog 114 #[.pointer (some ⟨b, 0, none⟩), m.val] w fun r w' => r = .returned (.bool false) ∧ Below w.heap.size w w' := by
  simp only [Mg.val]
  unfold jnO at hj
  have hlt := at_lt hj
  have e17 := cell_at hj 17
  simp only [List.getElem?_toArray, List.getElem?_cons_zero, List.getElem?_cons_succ] at e17
  replace hj := Lib.hid hj
  have hb1 := Lib.hid ((Below.refl w.heap.size w).alloc (Nat.le_refl _) (m.box 36))
  go_enter Tryz.func114, Tryz.ntmps114
  go_wp2
  go_ret
  exact ⟨rfl, hb1.out⟩

structure mayOk (m : Mg) (me n boot : Int) : Prop where
  kind : m.kind = 11
  too : m.too = me
  yes : m.yes = true
  num : m.num = boot
  frm : m.frm = decT m.view n
  v1 : 1 ≤ m.view
  v2 : m.view ≤ 9223372036854775807
  mem : 0 ≤ m.mem ∧ m.mem < 128
  most : mostT m.mem n = true
  has : hasT m.mem.toNat m.frm = true
  com : m.com = 0

set_option maxRecDepth 100000 in
set_option maxHeartbeats 2000000 in
theorem jHear_any (b : Nat) (me n boot promise : Int) (m0 m : Mg) (w : World) (hj : jnO w b me n boot promise m0 false) (hm : mayOk m me n boot) :
    Calls Tryz.prog 114 #[.pointer (some ⟨b, 0, none⟩), m.val] w fun r w' => r = .returned (.bool (decide (promise ≤ m.view))) ∧
      (promise ≤ m.view → jnO w' b me n boot promise m true ∧ Chg (fun k => k = b) w w') ∧ (m.view < promise → Below w.heap.size w w') := by
  simp only [Mg.val]
  have hj0 := hj
  unfold jnO at hj
  have hlt := at_lt hj
  have e17 := cell_at hj 17
  simp only [List.getElem?_toArray, List.getElem?_cons_zero, List.getElem?_cons_succ] at e17
  replace hj := Lib.hid hj0
  clear hj0
  have hb1 := Lib.hid ((Below.refl w.heap.size w).alloc (Nat.le_refl _) (m.box 36))
  have hj1 := Lib.hid (hj.out.below hb1.out)
  have hx1 := Lib.hid (at_new w (m.box 36))
  replace hm := Lib.hid hm
  go_enter Tryz.func114, Tryz.ntmps114
  go_wp2_with fail
  refine (jMay_any b me n boot promise m0 false m _ hj1.out hm.out.kind hm.out.too hm.out.yes hm.out.num hm.out.frm hm.out.v1 hm.out.v2 hm.out.mem hm.out.most hm.out.has hm.out.com).mono ?_
  rintro r w2 ⟨rfl, hb2⟩
  have hB2 := hb1.out.trans (hb2.mono hb1.out.size)
  have hx2 := at_below hx1.out hb2
  have hj2 := hj1.out.below hb2
  have hl2 := at_lt hj2
  clear hb2 e17
  by_cases hp : promise ≤ m.view
  · have d : decide (promise ≤ m.view) = true := by simpa using hp
    rw [d]
    have hpH := Lib.hid hp
    have f0 := cell_at hx2 0
    have f1 := cell_at hx2 1
    have f2 := cell_at hx2 2
    have f3 := cell_at hx2 3
    have f4 := cell_at hx2 4
    have f5 := cell_at hx2 5
    have f6 := cell_at hx2 6
    have f7 := cell_at hx2 7
    have f8 := cell_at hx2 8
    have f9 := cell_at hx2 9
    have f10 := cell_at hx2 10
    have f11 := cell_at hx2 11
    have f12 := cell_at hx2 12
    simp only [List.getElem?_toArray, List.getElem?_cons_zero, List.getElem?_cons_succ] at f0 f1 f2 f3 f4 f5 f6 f7 f8 f9 f10 f11 f12
    replace hx2 := Lib.hid hx2
    replace hj2 := Lib.hid hj2
    replace hB2 := Lib.hid hB2
    clear d hp
    go_wp2_with fail
    refine (jOwn_any m _).mono ?_
    rintro r w3 ⟨rfl, hb3⟩
    have hj3 := hj2.out.below hb3
    have hB3 := hB2.out.trans (hb3.mono hB2.out.size)
    have hset := jn_set (m := m) hj3
    unfold jnO at hj3
    have z4 := free_at hj3 4
    have z5 := free_at hj3 5
    have z6 := free_at hj3 6
    have z7 := free_at hj3 7
    have z8 := free_at hj3 8
    have z9 := free_at hj3 9
    have z10 := free_at hj3 10
    have z11 := free_at hj3 11
    have z12 := free_at hj3 12
    have z13 := free_at hj3 13
    have z14 := free_at hj3 14
    have z15 := free_at hj3 15
    have z16 := free_at hj3 16
    have z17 := free_at hj3 17
    have q4 := cell_at hj3 4
    have q5 := cell_at hj3 5
    have q6 := cell_at hj3 6
    have q7 := cell_at hj3 7
    have q8 := cell_at hj3 8
    have q9 := cell_at hj3 9
    have q10 := cell_at hj3 10
    have q11 := cell_at hj3 11
    have q12 := cell_at hj3 12
    have q13 := cell_at hj3 13
    have q14 := cell_at hj3 14
    have q15 := cell_at hj3 15
    have q16 := cell_at hj3 16
    have q17 := cell_at hj3 17
    simp only [List.getElem?_toArray, List.getElem?_cons_zero, List.getElem?_cons_succ] at q4 q5 q6 q7 q8 q9 q10 q11 q12 q13 q14 q15 q16 q17
    have hl3 := at_lt hj3
    have hfin : ∀ w', (jnO w' b me n boot promise m true ∧ Chg (fun k => k = b) w3 w') → (jnO w' b me n boot promise m true ∧ Chg (fun k => k = b) w w') := fun w' h =>
      ⟨h.1, (Chg.of_below hB3).trans (h.2.mono fun k _ e => .inl e)⟩
    clear f0 f1 f2 f3 f4 f5 f6 f7 f8 f9 f10 f11 f12
    replace hj3 := Lib.hid hj3
    replace hset := Lib.hid hset
    replace hfin := Lib.hid hfin
    replace hB3 := Lib.hid hB3
    simp only [Mg.val]
    go_wp2
    go_ret
    exact ⟨ret_bool (by have := hpH.out; simp <;> omega), fun _ => hfin.out _ hset.out, fun h => by have := hpH.out; omega⟩
  · have d : decide (promise ≤ m.view) = false := by simpa using hp
    rw [d]
    have hpH := Lib.hid hp
    clear hp d
    replace hB2 := Lib.hid hB2
    clear hx2 hj2
    go_wp2
    go_ret
    exact ⟨ret_bool (by have := hpH.out; simp <;> omega), fun h => by have := hpH.out; omega, fun _ => hB2.out⟩

end Go.Proofs.YtphlcbbdpmkipaaGreat
/- One that comes back asks all others; messages that are alike; no one at all. -/
namespace Go.Proofs.YtphlcbbdpmkipaaGreat
open Go.RowKit
set_option linter.unusedVariables false

def askM (me boot : Int) (i : Nat) : Mg := ⟨10, me, (i : Int) + 1, boot, 0, 0, 0, 0, 0, boot, 0, false⟩
def askN (me : Int) (k : Nat) : Nat := if (k : Int) < me then k else k - 1
def asks (me boot : Int) (c : Nat) : List Mg := (List.range c).map fun i : Nat => askM me boot (if (i : Int) + 1 < me then i else i + 1)
theorem asks_len (me boot : Int) (c : Nat) : (asks me boot c).length = c := by simp [asks]
theorem asks_get (me boot : Int) (c k : Nat) (h : k < (asks me boot c).length) : (asks me boot c)[k] = askM me boot (if (k : Int) + 1 < me then k else k + 1) := by simp [asks]
theorem asks_same {me : Int} (boot : Int) {k : Nat} (h : ((k + 1 : Nat) : Int) = me) : asks me boot (askN me (k + 1)) = asks me boot (askN me k) := by
  unfold askN; rw [if_neg (by omega), if_pos (by omega)]; rfl
theorem asks_more {me : Int} (boot : Int) {k : Nat} (h1 : 1 ≤ me) (h : ((k + 1 : Nat) : Int) ≠ me) : asks me boot (askN me (k + 1)) = asks me boot (askN me k) ++ [askM me boot k] := by
  unfold askN
  by_cases hk : ((k + 1 : Nat) : Int) < me
  · rw [if_pos hk, if_pos (by omega)]
    simp only [asks, List.range_succ, List.map_append, List.map_cons, List.map_nil]
    rw [if_pos (by omega)]
  · rw [if_neg hk, if_neg (by omega), Nat.add_sub_cancel]
    obtain ⟨j, rfl⟩ : ∃ j, k = j + 1 := ⟨k - 1, by omega⟩
    rw [Nat.add_sub_cancel]
    simp only [asks, List.range_succ, List.map_append, List.map_cons, List.map_nil]
    rw [if_neg (by omega)]

def flatM (l : List Mg) : List Value := l.flatMap Mg.cells
theorem flatM_len (l : List Mg) : (flatM l).length = l.length * 13 := by
  induction l with
  | nil => rfl
  | cons x l ih => unfold flatM at ih ⊢; rw [List.flatMap_cons, List.length_append, ih]; simp; omega
theorem flatM_get (l : List Mg) (j : Nat) (h : j < l.length) (c : Nat) (hc : c < 13) : (flatM l)[j * 13 + c]? = (l[j].cells)[c]? := by
  induction l generalizing j with
  | nil => simp at h
  | cons x l ih =>
    unfold flatM at ih ⊢
    rw [List.flatMap_cons]
    cases j with
    | zero => rw [Nat.zero_mul, Nat.zero_add, List.getElem?_append_left (by simpa using hc)]; rfl
    | succ j =>
      rw [List.getElem?_append_right (by simp; omega), show (j + 1) * 13 + c - x.cells.length = j * 13 + c by simp; omega, ih j (by simpa using h)]
      rfl
theorem flatM_snoc (l : List Mg) (x : Mg) : flatM (l ++ [x]) = flatM l ++ x.cells := by
  unfold flatM; rw [List.flatMap_append]; simp
/-- a message's cells lie at a place -/
def cM (w : World) (b o : Nat) (m : Mg) : Prop := w.cell? ⟨b, o, none⟩ = some (.int .i64 m.kind) ∧ w.cell? ⟨b, o + 1, none⟩ = some (.int .i64 m.frm) ∧ w.cell? ⟨b, o + 2, none⟩ = some (.int .i64 m.too) ∧ w.cell? ⟨b, o + 3, none⟩ = some (.int .i64 m.boot) ∧ w.cell? ⟨b, o + 4, none⟩ = some (.int .i64 m.view) ∧ w.cell? ⟨b, o + 5, none⟩ = some (.int .i64 m.last) ∧ w.cell? ⟨b, o + 6, none⟩ = some (.int .i64 m.mem) ∧ w.cell? ⟨b, o + 7, none⟩ = some (.int .i64 m.pos) ∧ w.cell? ⟨b, o + 8, none⟩ = some (.slice none 0 0) ∧ w.cell? ⟨b, o + 9, none⟩ = some (.int .i64 m.com) ∧ w.cell? ⟨b, o + 10, none⟩ = some (.int .i64 m.num) ∧ w.cell? ⟨b, o + 11, none⟩ = some (.int .i64 m.clock) ∧ w.cell? ⟨b, o + 12, none⟩ = some (.bool m.yes)
theorem cM.lt {w : World} {b o : Nat} {m : Mg} (h : cM w b o m) : b < w.heap.size := cell_lt h.1
theorem cM.grow (w w' : World) (b o : Nat) (m : Mg) (h : cM w b o m) (hb : Below w.heap.size w w') : cM w' b o m := by
  have hlt := h.lt
  have k : ∀ o, w'.cell? ⟨b, o, none⟩ = w.cell? ⟨b, o, none⟩ := fun o => hb.cell hlt
  unfold cM at h ⊢
  simp only [k]
  exact h
def ownM (w : World) (base : Nat) (v : Value) (l : List Mg) : Prop := w.ownsRow base 36 13 v l.length (flatM l)
theorem ownM.rd {w : World} {base : Nat} {v : Value} {l : List Mg} (h : ownM w base v l) : rdS 13 cM w v l := by
  obtain ⟨hl, ⟨rfl, h0⟩ | ⟨g, cap, cur, rfl, hb, hg, hn, hc, hs, ht⟩⟩ := h
  · exact ⟨none, 0, by rw [h0], by rw [h0]; exact Nat.zero_le _, Nat.zero_le _, fun h => by omega⟩
  · refine ⟨some ⟨g, 0, none⟩, cap, rfl, hn, hc, fun _ => ⟨g, 0, rfl, fun j hj => ?_⟩⟩
    have key : ∀ c u, c < 13 → (l[j].cells)[c]? = some u → w.cell? ⟨g, 0 + j * 13 + c, none⟩ = some u := by
      intro c u hc hu
      have h1 : (cur.toList.take (l.length * 13))[j * 13 + c]? = some u := by rw [ht, flatM_get l j hj c hc]; exact hu
      rw [List.getElem?_take] at h1
      split at h1
      · simp [World.cell?, hg] at h1 ⊢
        simpa using h1
      · cases h1
    exact ⟨key 0 _ (by omega) rfl, key 1 _ (by omega) rfl, key 2 _ (by omega) rfl, key 3 _ (by omega) rfl, key 4 _ (by omega) rfl, key 5 _ (by omega) rfl, key 6 _ (by omega) rfl, key 7 _ (by omega) rfl, key 8 _ (by omega) rfl, key 9 _ (by omega) rfl, key 10 _ (by omega) rfl, key 11 _ (by omega) rfl, key 12 _ (by omega) rfl⟩

theorem infoMsg : (Tryz.prog.info? 36).map (fun i => (i.zero, i.size, i.bytes)) = some (some mg0.val, 13, 120) := by kernel_rfl
theorem newsM_one (m : Mg) : ∀ u ∈ m.cells, u.oneCell' = true := by
  intro u hu
  simp at hu
  rcases hu with rfl | rfl | rfl | rfl | rfl | rfl | rfl | rfl | rfl | rfl | rfl | rfl | rfl <;> rfl

set_option maxRecDepth 100000 in
set_option maxHeartbeats 4000000 in
theorem jAsk_any (b : Nat) (me n boot promise : Int) (m0 : Mg) (got : Bool) (w : World) (hj : jnO w b me n boot promise m0 got) (h1 : 1 ≤ me) (hn : 0 ≤ n) (hn7 : n ≤ 7) :
    Calls Tryz.prog 50 #[.pointer (some ⟨b, 0, none⟩)] w fun r w' => ∃ v', r = .returned v' ∧ ownM w' w.heap.size v' (asks me boot (askN me n.toNat)) ∧ Below w.heap.size w w' := by
  obtain ⟨i0, hi, hz0, hz1, hz2⟩ := info_parts infoMsg
  replace hi := Lib.hid hi
  obtain ⟨N, rfl⟩ : ∃ N : Nat, n = N := ⟨n.toNat, by omega⟩
  rw [Int.toNat_natCast]
  have hjl := at_lt hj
  replace hj := Lib.hid hj
  go_enter Tryz.func50, Tryz.ntmps50
  go_wp2
  go_loopw [3, 4] (fun r i wr => ∃ k : Nat, k ≤ N ∧ i = .int .i64 ((k : Int) + 1) ∧ ownM wr w.heap.size r (asks me boot (askN me k)) ∧ Below w.heap.size w wr) (fun _ i _ => N + 1 - (intOf i).toNat)
  case atStart => exact ⟨0, Nat.zero_le _, rfl, by rw [show askN me 0 = 0 by unfold askN; split <;> rfl]; exact World.ownsRow_nil _ _ _ _, Below.refl _ _⟩
  case round =>
    obtain ⟨k, hk, rfl, hown, hbel⟩ := hrel
    have hsz := hbel.size
    have hjr := hj.out.below hbel
    unfold jnO at hjr
    have e0 := cell_at hjr 0
    have e1 := cell_at hjr 1
    have e2 := cell_at hjr 2
    simp only [List.getElem?_toArray, List.getElem?_cons_zero, List.getElem?_cons_succ] at e0 e1 e2
    have hjrl := at_lt hjr
    replace hjr := Lib.hid hjr
    have hlen := asks_len me boot (askN me k)
    have hak : askN me k ≤ k := by unfold askN; split <;> omega
    obtain ⟨L, hL⟩ : ∃ L, asks me boot (askN me k) = L := ⟨_, rfl⟩
    rw [hL] at hown hlen
    replace hL := Lib.hid hL
    replace hak := Lib.hid hak
    have hl8 : L.length ≤ 8 := by have := hak.out; omega
    replace hlen := Lib.hid hlen
    by_cases hlt : k < N
    · by_cases hme : ((k + 1 : Nat) : Int) = me
      · have hs := asks_same boot hme
        replace hs := Lib.hid hs
        have hme2 : (k : Int) + 1 = me := by omega
        replace hown := Lib.hid hown
        replace hbel := Lib.hid hbel
        clear hme
        subst hme2
        go_wp2
        go_roundw
        case rel => exact ⟨k + 1, by omega, by go_num, by rw [hs.out, hL.out]; exact hown.out, hbel.out⟩
        case measure => simp [intOf]; omega
      · have hs := asks_more boot h1 hme
        rw [hL.out] at hs
        replace hs := Lib.hid hs
        have d : ((k : Int) + 1 == me) = false := by simp; omega
        have d2 : ((k : Int) + 1 != me) = true := by simp; omega
        have hsl := hown.rd.len
        obtain ⟨ao, cap, rfl⟩ := hsl
        replace hown := Lib.hid hown
        replace hbel := Lib.hid hbel
        replace hme := Lib.hid hme
        go_upto_region 8 with (fail)
        have hi' := hi.out
        go_region_law
          ((refine step_append_lies _ (by rfl) _ _ _ (by rfl) w.heap.size 36 i0 _ 13 120 Tryz.underlying32 hi' hz0 hz1 hz2 rfl (by omega) (.slice ao L.length cap) L.length (flatM L) (by rfl) ((World.ownsRow.alloc hown.out _).drew)
              ⟨wr.heap.size, 0, none⟩ 1 1 (askM me boot k).cells (by rfl) (by rfl) (World.news_of_block (cs := (askM me boot k).cells.toArray) (t := 36) (fr := (0, 0)) (heap_alloc_new wr _)) (newsM_one _)
              (by omega) (by unfold maxLen; omega) (by omega) (by simp; omega) (wr.heap.size + 1) (by simp) ?_; intro gg cap1 w5 hown1 hgrow hat hlt5))
        all_goals
          have hown2 : ownM w5 w.heap.size (.slice (some ⟨gg, 0, none⟩) (L.length + 1) cap1) (asks me boot (askN me (k + 1))) := by
            rw [hs.out, ownM, List.length_append, flatM_snoc]; exact hown1
          have hb5 : Below w.heap.size w w5 := ((hbel.out.alloc hsz _).drew).grown hgrow (by simp; omega) (fun k hk => (hown.out.lt k hk).1)
          clear hown1 hgrow hat
          replace hown2 := Lib.hid hown2
          replace hb5 := Lib.hid hb5
          go_wp2
          go_roundw
          case rel => exact ⟨k + 1, by omega, by go_num, hown2.out, hb5.out⟩
          case measure => simp [intOf]; omega
    · obtain rfl : k = N := by omega
      rw [← hL.out] at hown
      replace hown := Lib.hid hown
      replace hbel := Lib.hid hbel
      go_wp2
      go_ret
      exact ⟨_, rfl, hown.out, hbel.out⟩

set_option maxRecDepth 100000 in
theorem jAsk_nil (w : World) : Calls Tryz.prog 50 #[.pointer none] w fun r w' => r = .returned (.slice none 0 0) ∧ w = w' := by
  go_enter Tryz.func50, Tryz.ntmps50
  go_wp2
  go_ret
  exact ⟨rfl, rfl⟩
set_option maxRecDepth 100000 in
set_option maxHeartbeats 1000000 in
theorem jHear_nil (m : Mg) (w : World) : Calls Tryz.prog 114 #[.pointer none, m.val] w fun r w' => r = .returned (.bool false) ∧ Below w.heap.size w w' := by
  simp only [Mg.val]
  have hb1 : Below w.heap.size w (w.alloc (m.box 36)) := (Below.refl _ _).alloc (Nat.le_refl _) _
  replace hb1 := Lib.hid hb1
  go_enter Tryz.func114, Tryz.ntmps114
  go_wp2
  go_ret
  exact ⟨rfl, hb1.out⟩

set_option maxRecDepth 100000 in
set_option maxHeartbeats 4000000 in
theorem r12EqMsg_same (m : Mg) (w : World) : Calls Tryz.prog 59 #[m.val, m.val] w fun r w' => r = .returned (.bool true) ∧ Below w.heap.size w w' := by
  simp only [Mg.val]
  have hB : Below w.heap.size w ((w.alloc (m.box 36)).alloc (m.box 36)) := ((Below.refl _ _).alloc (Nat.le_refl _) _).alloc (by simp) _
  replace hB := Lib.hid hB
  have heq := Lib.hid (eqAll_refl [])
  go_enter Tryz.func59, Tryz.ntmps59
  go_wp2_with fail
  refine (r12EqAll_any _ _ [] [] _ (rdE_nil1 _) (rdE_nil1 _)).mono ?_
  rintro r w2 ⟨rfl, hb2⟩
  rw [heq.out]
  have hB2 := hB.out.trans (hb2.mono hB.out.size)
  go_wp2
  go_ret
  exact ⟨rfl, hB2⟩

end Go.Proofs.YtphlcbbdpmkipaaGreat
