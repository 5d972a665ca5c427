/- Messages without entries, and one that comes back: contracts. -/
import Derived.Test.YtacchkmdheglaaaVtR
import Derived.Test.YtacchkmdheglaaaEntO
import Derived.Deep.RegionLaw
import Derived.Deep.AppendLies
namespace Go.Proofs.Ytacchkmdheglaaa
open Go.RowKit
set_option linter.unusedVariables false

/-- a message that has no entries -/
structure Mg where
  kind : Int
  frm : Int
  too : Int
  boot : Int
  view : Int
  last : Int
  mem : Int
  pos : Int
  com : Int
  num : Int
  clock : Int
  yes : Bool
abbrev mg0 : Mg := ⟨0, 0, 0, 0, 0, 0, 0, 0, 0, 0, 0, false⟩
abbrev Mg.cells (m : Mg) : List Value := [.int .i64 m.kind, .int .i64 m.frm, .int .i64 m.too, .int .i64 m.boot, .int .i64 m.view, .int .i64 m.last, .int .i64 m.mem, .int .i64 m.pos, .slice none 0 0, .int .i64 m.com, .int .i64 m.num, .int .i64 m.clock, .bool m.yes]
abbrev Mg.val (m : Mg) : Value := .agg #[.int .i64 m.kind, .int .i64 m.frm, .int .i64 m.too, .int .i64 m.boot, .int .i64 m.view, .int .i64 m.last, .int .i64 m.mem, .int .i64 m.pos, .slice none 0 0, .int .i64 m.com, .int .i64 m.num, .int .i64 m.clock, .bool m.yes]
abbrev Mg.box (m : Mg) (T : TypeId) : Obj := .cells #[.int .i64 m.kind, .int .i64 m.frm, .int .i64 m.too, .int .i64 m.boot, .int .i64 m.view, .int .i64 m.last, .int .i64 m.mem, .int .i64 m.pos, .slice none 0 0, .int .i64 m.com, .int .i64 m.num, .int .i64 m.clock, .bool m.yes] T

abbrev jnC (me n boot promise : Int) (m : Mg) (got : Bool) : Array Value := #[.int .i64 me, .int .i64 n, .int .i64 boot, .int .i64 promise, .int .i64 m.kind, .int .i64 m.frm, .int .i64 m.too, .int .i64 m.boot, .int .i64 m.view, .int .i64 m.last, .int .i64 m.mem, .int .i64 m.pos, .slice none 0 0, .int .i64 m.com, .int .i64 m.num, .int .i64 m.clock, .bool m.yes, .bool got]
/-- one that comes back, in memory -/
def jnO (w : World) (b : Nat) (me n boot promise : Int) (m : Mg) (got : Bool) : Prop := w.heap[b]? = some (.cells (jnC me n boot promise m got) 75 (0, 0))
theorem jnO.below {w w' : World} {b : Nat} {me n boot promise : Int} {m : Mg} {got : Bool} (h : jnO w b me n boot promise m got) (hb : Below w.heap.size w w') : jnO w' b me n boot promise m got := at_below h hb

set_option maxRecDepth 100000 in
set_option maxHeartbeats 400000 in
theorem jNew_ok (me n boot promise : Int) (w : World) (h3 : 3 ≤ n) (h7 : n ≤ 7) (hm : 1 ≤ me) (hmn : me ≤ n) (hb : 1 ≤ boot) (hb2 : boot ≤ 1099511627776) (hp : 0 ≤ promise) (hp2 : promise ≤ 1099511627776) :
    Calls Try.prog 13 #[.int .i64 me, .int .i64 n, .int .i64 boot, .int .i64 promise] w fun r w' => r = .returned (.pointer (some ⟨w.heap.size, 0, none⟩)) ∧ jnO w' w.heap.size me n boot promise mg0 false ∧ Below w.heap.size w w' := by
  have d : (decT 1 n == 0) = false := by
    have h1 : ¬ (n < 3 ∨ 7 < n) := by omega
    simp [decT, h1]
  go_enter Try.func13, Try.ntmps13
  go_wp2_with (go_at_call 36; refine (decider_any _ _ _ (by omega) (by omega)).mono ?_; rintro e w' ⟨rfl, rfl⟩)
  go_ret
  exact ⟨rfl, at_new _ _, (Below.refl _ _).alloc (Nat.le_refl _) _⟩
set_option maxRecDepth 100000 in
theorem jNew_bad1 (w : World) : Calls Try.prog 13 #[.int .i64 4, .int .i64 3, .int .i64 1, .int .i64 0] w fun r w' => r = .returned (.pointer none) ∧ w = w' := by
  have d : (decT 1 3 == 0) = false := by decide
  go_enter Try.func13, Try.ntmps13
  go_wp2_with (go_at_call 36; refine (decider_any _ _ _ (by omega) (by omega)).mono ?_; rintro e w' ⟨rfl, rfl⟩)
  go_ret
  exact ⟨rfl, rfl⟩
set_option maxRecDepth 100000 in
theorem jNew_bad2 (w : World) : Calls Try.prog 13 #[.int .i64 1, .int .i64 3, .int .i64 0, .int .i64 0] w fun r w' => r = .returned (.pointer none) ∧ w = w' := by
  have d : (decT 1 3 == 0) = false := by decide
  go_enter Try.func13, Try.ntmps13
  go_wp2_with (go_at_call 36; refine (decider_any _ _ _ (by omega) (by omega)).mono ?_; rintro e w' ⟨rfl, rfl⟩)
  go_ret
  exact ⟨rfl, rfl⟩

set_option maxRecDepth 100000 in
theorem sClone_nil (w : World) : Calls Try.prog 41 #[.slice none 0 0] w fun r w' => r = .returned (.slice none 0 0) ∧ Below w.heap.size w w' := by
  have hnil := fun (w : World) => Lib.run_eql_slice_nil (P := Try.prog) w 28 67 none 0 0 0 0 Try.underlying28
  go_enter Try.func41, Try.ntmps41
  go_wp2
  go_ret
  exact ⟨rfl, Below.refl _ _⟩

set_option maxRecDepth 100000 in
set_option maxHeartbeats 2000000 in
theorem jOwn_any (m : Mg) (w : World) : Calls Try.prog 37 #[m.val] w fun r w' => r = .returned m.val ∧ Below w.heap.size w w' := by
  simp only [Mg.val]
  obtain ⟨W1, hW1⟩ : ∃ W, W = (w.alloc (m.box 30)).alloc (mg0.box 30) := ⟨_, rfl⟩
  have hB1 : Below w.heap.size w W1 := hW1 ▸ ((Below.refl _ _).alloc (Nat.le_refl _) _).alloc (by simp) _
  have hx1 : W1.heap[w.heap.size]? = some (m.box 30) := hW1 ▸ at_old _ (at_new _ _)
  have hy1 : W1.heap[w.heap.size + 1]? = some (mg0.box 30) := by
    have := at_new (w.alloc (m.box 30)) (mg0.box 30)
    rw [← hW1] at this
    simpa using this
  have f8 := cell_at hx1 8
  simp only [List.getElem?_toArray, List.getElem?_cons_zero, List.getElem?_cons_succ] at f8
  replace hx1 := Lib.hid hx1
  replace hy1 := Lib.hid hy1
  replace hB1 := Lib.hid hB1
  obtain ⟨nb, hnb⟩ : ∃ nb, nb = w.heap.size := ⟨_, rfl⟩
  rw [← hnb] at hx1 hy1 f8
  go_enter Try.func37, Try.ntmps37
  go_upto_region 1 with (fail)
  rw [← hW1, ← hnb]
  clear hW1
  replace hnb := Lib.hid hnb
  go_wp2_with fail
  refine (sClone_nil _).mono ?_
  rintro r w2 ⟨rfl, hb2⟩
  have hx2 := at_below hx1.out hb2
  have hy2 := at_below hy1.out hb2
  have hB2 := hB1.out.trans (hb2.mono hB1.out.size)
  clear f8
  have f0 := cell_at hx2 0
  have f1 := cell_at hx2 1
  have f2 := cell_at hx2 2
  have f3 := cell_at hx2 3
  have f4 := cell_at hx2 4
  have f5 := cell_at hx2 5
  have f6 := cell_at hx2 6
  have f7 := cell_at hx2 7
  have f8 := cell_at hx2 8
  have f9 := cell_at hx2 9
  have f10 := cell_at hx2 10
  have f11 := cell_at hx2 11
  have f12 := cell_at hx2 12
  have g0 := cell_at hy2 0
  have g1 := cell_at hy2 1
  have g2 := cell_at hy2 2
  have g3 := cell_at hy2 3
  have g4 := cell_at hy2 4
  have g5 := cell_at hy2 5
  have g6 := cell_at hy2 6
  have g7 := cell_at hy2 7
  have g8 := cell_at hy2 8
  have g9 := cell_at hy2 9
  have g10 := cell_at hy2 10
  have g11 := cell_at hy2 11
  have g12 := cell_at hy2 12
  have z8 := free_at hx2 8
  have t0 := free_at hy2 0
  have t1 := free_at hy2 1
  have t2 := free_at hy2 2
  have t3 := free_at hy2 3
  have t4 := free_at hy2 4
  have t5 := free_at hy2 5
  have t6 := free_at hy2 6
  have t7 := free_at hy2 7
  have t8 := free_at hy2 8
  have t9 := free_at hy2 9
  have t10 := free_at hy2 10
  have t11 := free_at hy2 11
  have t12 := free_at hy2 12
  simp only [List.getElem?_toArray, List.getElem?_cons_zero, List.getElem?_cons_succ] at f0 f1 f2 f3 f4 f5 f6 f7 f8 f9 f10 f11 f12 g0 g1 g2 g3 g4 g5 g6 g7 g8 g9 g10 g11 g12
  have hl2 := at_lt hy2
  have hl1 := at_lt hx2
  have hge : w.heap.size ≤ nb := Nat.le_of_eq hnb.out.symm
  have hge2 : w.heap.size ≤ nb + 1 := by omega
  have hfin : ∀ a0 a1 a2 a3 a4 a5 a6 a7 a8 a9 a10 a11 a12 a13, Below w.heap.size w (((((((((((((((w2.setCell ⟨nb, 8, none⟩ a0).setCell ⟨nb + 1, 0, none⟩ a1).setCell ⟨nb + 1, 1, none⟩ a2).setCell ⟨nb + 1, 2, none⟩ a3).setCell ⟨nb + 1, 3, none⟩ a4).setCell ⟨nb + 1, 4, none⟩ a5).setCell ⟨nb + 1, 5, none⟩ a6).setCell ⟨nb + 1, 6, none⟩ a7).setCell ⟨nb + 1, 7, none⟩ a8).setCell ⟨nb + 1, 8, none⟩ a9).setCell ⟨nb + 1, 9, none⟩ a10).setCell ⟨nb + 1, 10, none⟩ a11).setCell ⟨nb + 1, 11, none⟩ a12).setCell ⟨nb + 1, 12, none⟩ a13)) := by
    intro a0 a1 a2 a3 a4 a5 a6 a7 a8 a9 a10 a11 a12 a13
    exact (((((((((((((hB2.setCell hge a0).setCell hge2 a1).setCell hge2 a2).setCell hge2 a3).setCell hge2 a4).setCell hge2 a5).setCell hge2 a6).setCell hge2 a7).setCell hge2 a8).setCell hge2 a9).setCell hge2 a10).setCell hge2 a11).setCell hge2 a12).setCell hge2 a13
  clear hB2 hb2
  replace hfin := Lib.hid hfin
  replace hx2 := Lib.hid hx2
  replace hy2 := Lib.hid hy2
  go_wp2
  exact bodyPost_ret (v := m.val) (by simp [results, Try.results37, go_sem, hl2, g0, g1, g2, g3, g4, g5, g6, g7, g8, g9, g10, g11, g12]) rfl ⟨rfl, hfin.out _ _ _ _ _ _ _ _ _ _ _ _ _ _⟩

end Go.Proofs.Ytacchkmdheglaaa
