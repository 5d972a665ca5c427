/- The law's own start. -/
import Derived.Test.YtimffflhfaiakaaCrE
namespace Go.Proofs.Ytimffflhfaiakaa
open Go.RowKit
set_option linter.unusedVariables false

def lB : List Rg := [⟨0, 10⟩, ⟨5, 15⟩, ⟨8, 9⟩]
theorem sB : startsR lB = [0, 5, 8, 10, 11, 16] := by
  have h1 : rawS lB = [0, 11, 5, 16, 8, 10] := by decide
  have h2 : sortI [0, 11, 5, 16, 8, 10] = [0, 5, 8, 10, 11, 16] := by simp [sortI, List.mergeSort, List.MergeSort.Internal.splitInTwo, List.merge]
  unfold startsR
  rw [h1, h2]
  decide
theorem rB : runsR (startsR lB) = [⟨0, 4⟩, ⟨5, 7⟩, ⟨8, 9⟩, ⟨10, 10⟩, ⟨11, 15⟩, ⟨16, maxI⟩] := by rw [sB]; rfl
theorem bB : bestR lB = (⟨8, 9⟩, 3) := by
  unfold bestR
  rw [rB]
  rfl
theorem mB : mostR lB 2 = (⟨5, 10⟩, true) := by
  unfold mostR manyR
  rw [rB]
  rfl
theorem cB : cntR lB 9 = 3 := by decide
theorem okB : okR lB := by
  intro r hr
  simp only [lB, List.mem_cons, List.not_mem_nil, or_false] at hr
  rcases hr with rfl | rfl | rfl <;> exact ⟨⟨by decide, by decide⟩, ⟨by decide, by decide⟩⟩
theorem dB (w : World) : rdR (w.alloc (.cells #[.int .i64 0, .int .i64 10, .int .i64 5, .int .i64 15, .int .i64 8, .int .i64 9] 28)) (.slice (some ⟨w.heap.size, 0, none⟩) 3 3) lB := by
  refine ⟨_, _, rfl, by decide, by decide, fun _ => ⟨_, _, rfl, fun j hj => ?_⟩⟩
  have hj3 : j < 3 := hj
  have hx := at_new w (.cells #[.int .i64 0, .int .i64 10, .int .i64 5, .int .i64 15, .int .i64 8, .int .i64 9] 28)
  have g0 := cell_at hx 0
  have g1 := cell_at hx 1
  have g2 := cell_at hx 2
  have g3 := cell_at hx 3
  have g4 := cell_at hx 4
  have g5 := cell_at hx 5
  match j, hj3 with
  | 0, _ => exact ⟨g0, g1⟩
  | 1, _ => exact ⟨g2, g3⟩
  | 2, _ => exact ⟨g4, g5⟩

set_option maxRecDepth 100000 in
set_option maxHeartbeats 8000000 in
theorem b10_any (w : World) : Calls Try.prog 15 #[] w fun r w' => r = .returned (.bool true) ∧ Below w.heap.size w w' := by
  have hd := dB w
  obtain ⟨w1, hw1⟩ : ∃ W, W = w.alloc (.cells #[.int .i64 0, .int .i64 10, .int .i64 5, .int .i64 15, .int .i64 8, .int .i64 9] 28) := ⟨_, rfl⟩
  have hB1 : Below w.heap.size w w1 := hw1 ▸ (Below.refl _ _).alloc (Nat.le_refl _) _
  rw [← hw1] at hd
  replace hd := Lib.hid hd
  replace hB1 := Lib.hid hB1
  go_enter Try.func15, Try.ntmps15
  go_upto_region 2 with (fail)
  rw [← hw1]
  clear hw1
  go_wp2_with fail
  refine (xBest_any _ lB _ hd.out okB (by decide)).mono ?_
  rintro r w2 ⟨rfl, hb2⟩
  rw [bB]
  have hd2 := hd.out.grow hb2
  have hB2 := hB1.out.trans (hb2.mono hB1.out.size)
  have hs2 := hB2.size
  obtain ⟨w3, hw3⟩ : ∃ W, W = w2.alloc (.cells #[.int .i64 8, .int .i64 9] 28) := ⟨_, rfl⟩
  have hb3 : Below w2.heap.size w2 w3 := hw3 ▸ (Below.refl _ _).alloc (Nat.le_refl _) _
  have hx3 : w3.heap[w2.heap.size]? = some (.cells #[.int .i64 8, .int .i64 9] 28 (0, 0)) := hw3 ▸ at_new _ _
  obtain ⟨n3, hn3⟩ : ∃ n, n = w2.heap.size := ⟨_, rfl⟩
  rw [← hn3] at hx3
  have hd3 := Lib.hid (hd2.grow hb3)
  have hB3 := Lib.hid (hB2.trans (hb3.mono hs2))
  replace hx3 := Lib.hid hx3
  clear hd2 hB2 hb2 hb3 hd hB1
  go_upto_region 3 with (fail)
  rw [← hw3, ← hn3]
  clear hw3
  replace hn3 := Lib.hid hn3
  go_wp2_with fail
  refine (xMost_any _ lB 2 _ hd3.out okB (by decide) (by exact ⟨by decide, by decide⟩)).mono ?_
  rintro r w4 ⟨rfl, hb4⟩
  rw [mB]
  have hd4 := hd3.out.grow hb4
  have hB4 := hB3.out.trans (hb4.mono hB3.out.size)
  have hs4 := hB4.size
  have hx4 := at_below hx3.out hb4
  obtain ⟨w5, hw5⟩ : ∃ W, W = w4.alloc (.cells #[.int .i64 5, .int .i64 10] 28) := ⟨_, rfl⟩
  have hb5 : Below w4.heap.size w4 w5 := hw5 ▸ (Below.refl _ _).alloc (Nat.le_refl _) _
  have hy5 : w5.heap[w4.heap.size]? = some (.cells #[.int .i64 5, .int .i64 10] 28 (0, 0)) := hw5 ▸ at_new _ _
  have hx5 := at_below hx4 hb5
  obtain ⟨n5, hn5⟩ : ∃ n, n = w4.heap.size := ⟨_, rfl⟩
  rw [← hn5] at hy5
  have hd5 := Lib.hid (hd4.grow hb5)
  have hB5 := Lib.hid (hB4.trans (hb5.mono hs4))
  replace hx5 := Lib.hid hx5
  replace hy5 := Lib.hid hy5
  clear hd4 hB4 hb4 hb5 hd3 hB3 hx3 hx4
  go_upto_region 4 with (fail)
  rw [← hw5, ← hn5]
  clear hw5
  replace hn5 := Lib.hid hn5
  go_wp2_with fail
  refine (xCount_any _ lB 9 _ hd5.out).mono ?_
  rintro r w6 ⟨rfl, hb6⟩
  rw [cB]
  have hx6 := at_below hx5.out hb6
  have hy6 := at_below hy5.out hb6
  have hB6 := Lib.hid (hB5.out.trans (hb6.mono hB5.out.size))
  have f0 := cell_at hx6 0
  have f1 := cell_at hx6 1
  have k0 := cell_at hy6 0
  have k1 := cell_at hy6 1
  simp only [List.getElem?_toArray, List.getElem?_cons_zero, List.getElem?_cons_succ] at f0 f1 k0 k1
  clear hb6 hx5 hy5 hB5 hd5
  replace hx6 := Lib.hid hx6
  replace hy6 := Lib.hid hy6
  go_wp2
  go_ret
  exact ⟨rfl, hB6.out⟩
end Go.Proofs.Ytimffflhfaiakaa
