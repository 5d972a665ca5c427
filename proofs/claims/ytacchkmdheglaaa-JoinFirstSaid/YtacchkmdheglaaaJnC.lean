/- One that comes back: it hears, tells, asks. -/
import Derived.Test.YtacchkmdheglaaaJnB
namespace Go.Proofs.Ytacchkmdheglaaa
open Go.RowKit
set_option linter.unusedVariables false

set_option maxHeartbeats 2000000 in
theorem jn_set {w : World} {b : Nat} {me n boot promise : Int} {m0 m : Mg} {got : Bool} (h : jnO w b me n boot promise m0 got) :
    jnO ((((((((((((((w.setCell ⟨b, 4, none⟩ (.int .i64 m.kind)).setCell ⟨b, 5, none⟩ (.int .i64 m.frm)).setCell ⟨b, 6, none⟩ (.int .i64 m.too)).setCell ⟨b, 7, none⟩ (.int .i64 m.boot)).setCell ⟨b, 8, none⟩ (.int .i64 m.view)).setCell ⟨b, 9, none⟩ (.int .i64 m.last)).setCell ⟨b, 10, none⟩ (.int .i64 m.mem)).setCell ⟨b, 11, none⟩ (.int .i64 m.pos)).setCell ⟨b, 12, none⟩ (.slice none 0 0)).setCell ⟨b, 13, none⟩ (.int .i64 m.com)).setCell ⟨b, 14, none⟩ (.int .i64 m.num)).setCell ⟨b, 15, none⟩ (.int .i64 m.clock)).setCell ⟨b, 16, none⟩ (.bool m.yes)).setCell ⟨b, 17, none⟩ (.bool true)) b me n boot promise m true ∧ Chg (fun k => k = b) w ((((((((((((((w.setCell ⟨b, 4, none⟩ (.int .i64 m.kind)).setCell ⟨b, 5, none⟩ (.int .i64 m.frm)).setCell ⟨b, 6, none⟩ (.int .i64 m.too)).setCell ⟨b, 7, none⟩ (.int .i64 m.boot)).setCell ⟨b, 8, none⟩ (.int .i64 m.view)).setCell ⟨b, 9, none⟩ (.int .i64 m.last)).setCell ⟨b, 10, none⟩ (.int .i64 m.mem)).setCell ⟨b, 11, none⟩ (.int .i64 m.pos)).setCell ⟨b, 12, none⟩ (.slice none 0 0)).setCell ⟨b, 13, none⟩ (.int .i64 m.com)).setCell ⟨b, 14, none⟩ (.int .i64 m.num)).setCell ⟨b, 15, none⟩ (.int .i64 m.clock)).setCell ⟨b, 16, none⟩ (.bool m.yes)).setCell ⟨b, 17, none⟩ (.bool true)) := by
  unfold jnO at h ⊢
  have h1 : ((w.setCell ⟨b, 4, none⟩ (.int .i64 m.kind))).heap[b]? = some (.cells #[.int .i64 me, .int .i64 n, .int .i64 boot, .int .i64 promise, .int .i64 m.kind, .int .i64 m0.frm, .int .i64 m0.too, .int .i64 m0.boot, .int .i64 m0.view, .int .i64 m0.last, .int .i64 m0.mem, .int .i64 m0.pos, .slice none 0 0, .int .i64 m0.com, .int .i64 m0.num, .int .i64 m0.clock, .bool m0.yes, .bool got] 75 (0, 0)) := set_at h
  have h2 : (((w.setCell ⟨b, 4, none⟩ (.int .i64 m.kind)).setCell ⟨b, 5, none⟩ (.int .i64 m.frm))).heap[b]? = some (.cells #[.int .i64 me, .int .i64 n, .int .i64 boot, .int .i64 promise, .int .i64 m.kind, .int .i64 m.frm, .int .i64 m0.too, .int .i64 m0.boot, .int .i64 m0.view, .int .i64 m0.last, .int .i64 m0.mem, .int .i64 m0.pos, .slice none 0 0, .int .i64 m0.com, .int .i64 m0.num, .int .i64 m0.clock, .bool m0.yes, .bool got] 75 (0, 0)) := set_at h1
  have h3 : ((((w.setCell ⟨b, 4, none⟩ (.int .i64 m.kind)).setCell ⟨b, 5, none⟩ (.int .i64 m.frm)).setCell ⟨b, 6, none⟩ (.int .i64 m.too))).heap[b]? = some (.cells #[.int .i64 me, .int .i64 n, .int .i64 boot, .int .i64 promise, .int .i64 m.kind, .int .i64 m.frm, .int .i64 m.too, .int .i64 m0.boot, .int .i64 m0.view, .int .i64 m0.last, .int .i64 m0.mem, .int .i64 m0.pos, .slice none 0 0, .int .i64 m0.com, .int .i64 m0.num, .int .i64 m0.clock, .bool m0.yes, .bool got] 75 (0, 0)) := set_at h2
  have h4 : (((((w.setCell ⟨b, 4, none⟩ (.int .i64 m.kind)).setCell ⟨b, 5, none⟩ (.int .i64 m.frm)).setCell ⟨b, 6, none⟩ (.int .i64 m.too)).setCell ⟨b, 7, none⟩ (.int .i64 m.boot))).heap[b]? = some (.cells #[.int .i64 me, .int .i64 n, .int .i64 boot, .int .i64 promise, .int .i64 m.kind, .int .i64 m.frm, .int .i64 m.too, .int .i64 m.boot, .int .i64 m0.view, .int .i64 m0.last, .int .i64 m0.mem, .int .i64 m0.pos, .slice none 0 0, .int .i64 m0.com, .int .i64 m0.num, .int .i64 m0.clock, .bool m0.yes, .bool got] 75 (0, 0)) := set_at h3
  have h5 : ((((((w.setCell ⟨b, 4, none⟩ (.int .i64 m.kind)).setCell ⟨b, 5, none⟩ (.int .i64 m.frm)).setCell ⟨b, 6, none⟩ (.int .i64 m.too)).setCell ⟨b, 7, none⟩ (.int .i64 m.boot)).setCell ⟨b, 8, none⟩ (.int .i64 m.view))).heap[b]? = some (.cells #[.int .i64 me, .int .i64 n, .int .i64 boot, .int .i64 promise, .int .i64 m.kind, .int .i64 m.frm, .int .i64 m.too, .int .i64 m.boot, .int .i64 m.view, .int .i64 m0.last, .int .i64 m0.mem, .int .i64 m0.pos, .slice none 0 0, .int .i64 m0.com, .int .i64 m0.num, .int .i64 m0.clock, .bool m0.yes, .bool got] 75 (0, 0)) := set_at h4
  have h6 : (((((((w.setCell ⟨b, 4, none⟩ (.int .i64 m.kind)).setCell ⟨b, 5, none⟩ (.int .i64 m.frm)).setCell ⟨b, 6, none⟩ (.int .i64 m.too)).setCell ⟨b, 7, none⟩ (.int .i64 m.boot)).setCell ⟨b, 8, none⟩ (.int .i64 m.view)).setCell ⟨b, 9, none⟩ (.int .i64 m.last))).heap[b]? = some (.cells #[.int .i64 me, .int .i64 n, .int .i64 boot, .int .i64 promise, .int .i64 m.kind, .int .i64 m.frm, .int .i64 m.too, .int .i64 m.boot, .int .i64 m.view, .int .i64 m.last, .int .i64 m0.mem, .int .i64 m0.pos, .slice none 0 0, .int .i64 m0.com, .int .i64 m0.num, .int .i64 m0.clock, .bool m0.yes, .bool got] 75 (0, 0)) := set_at h5
  have h7 : ((((((((w.setCell ⟨b, 4, none⟩ (.int .i64 m.kind)).setCell ⟨b, 5, none⟩ (.int .i64 m.frm)).setCell ⟨b, 6, none⟩ (.int .i64 m.too)).setCell ⟨b, 7, none⟩ (.int .i64 m.boot)).setCell ⟨b, 8, none⟩ (.int .i64 m.view)).setCell ⟨b, 9, none⟩ (.int .i64 m.last)).setCell ⟨b, 10, none⟩ (.int .i64 m.mem))).heap[b]? = some (.cells #[.int .i64 me, .int .i64 n, .int .i64 boot, .int .i64 promise, .int .i64 m.kind, .int .i64 m.frm, .int .i64 m.too, .int .i64 m.boot, .int .i64 m.view, .int .i64 m.last, .int .i64 m.mem, .int .i64 m0.pos, .slice none 0 0, .int .i64 m0.com, .int .i64 m0.num, .int .i64 m0.clock, .bool m0.yes, .bool got] 75 (0, 0)) := set_at h6
  have h8 : (((((((((w.setCell ⟨b, 4, none⟩ (.int .i64 m.kind)).setCell ⟨b, 5, none⟩ (.int .i64 m.frm)).setCell ⟨b, 6, none⟩ (.int .i64 m.too)).setCell ⟨b, 7, none⟩ (.int .i64 m.boot)).setCell ⟨b, 8, none⟩ (.int .i64 m.view)).setCell ⟨b, 9, none⟩ (.int .i64 m.last)).setCell ⟨b, 10, none⟩ (.int .i64 m.mem)).setCell ⟨b, 11, none⟩ (.int .i64 m.pos))).heap[b]? = some (.cells #[.int .i64 me, .int .i64 n, .int .i64 boot, .int .i64 promise, .int .i64 m.kind, .int .i64 m.frm, .int .i64 m.too, .int .i64 m.boot, .int .i64 m.view, .int .i64 m.last, .int .i64 m.mem, .int .i64 m.pos, .slice none 0 0, .int .i64 m0.com, .int .i64 m0.num, .int .i64 m0.clock, .bool m0.yes, .bool got] 75 (0, 0)) := set_at h7
  have h9 : ((((((((((w.setCell ⟨b, 4, none⟩ (.int .i64 m.kind)).setCell ⟨b, 5, none⟩ (.int .i64 m.frm)).setCell ⟨b, 6, none⟩ (.int .i64 m.too)).setCell ⟨b, 7, none⟩ (.int .i64 m.boot)).setCell ⟨b, 8, none⟩ (.int .i64 m.view)).setCell ⟨b, 9, none⟩ (.int .i64 m.last)).setCell ⟨b, 10, none⟩ (.int .i64 m.mem)).setCell ⟨b, 11, none⟩ (.int .i64 m.pos)).setCell ⟨b, 12, none⟩ (.slice none 0 0))).heap[b]? = some (.cells #[.int .i64 me, .int .i64 n, .int .i64 boot, .int .i64 promise, .int .i64 m.kind, .int .i64 m.frm, .int .i64 m.too, .int .i64 m.boot, .int .i64 m.view, .int .i64 m.last, .int .i64 m.mem, .int .i64 m.pos, .slice none 0 0, .int .i64 m0.com, .int .i64 m0.num, .int .i64 m0.clock, .bool m0.yes, .bool got] 75 (0, 0)) := set_at h8
  have h10 : (((((((((((w.setCell ⟨b, 4, none⟩ (.int .i64 m.kind)).setCell ⟨b, 5, none⟩ (.int .i64 m.frm)).setCell ⟨b, 6, none⟩ (.int .i64 m.too)).setCell ⟨b, 7, none⟩ (.int .i64 m.boot)).setCell ⟨b, 8, none⟩ (.int .i64 m.view)).setCell ⟨b, 9, none⟩ (.int .i64 m.last)).setCell ⟨b, 10, none⟩ (.int .i64 m.mem)).setCell ⟨b, 11, none⟩ (.int .i64 m.pos)).setCell ⟨b, 12, none⟩ (.slice none 0 0)).setCell ⟨b, 13, none⟩ (.int .i64 m.com))).heap[b]? = some (.cells #[.int .i64 me, .int .i64 n, .int .i64 boot, .int .i64 promise, .int .i64 m.kind, .int .i64 m.frm, .int .i64 m.too, .int .i64 m.boot, .int .i64 m.view, .int .i64 m.last, .int .i64 m.mem, .int .i64 m.pos, .slice none 0 0, .int .i64 m.com, .int .i64 m0.num, .int .i64 m0.clock, .bool m0.yes, .bool got] 75 (0, 0)) := set_at h9
  have h11 : ((((((((((((w.setCell ⟨b, 4, none⟩ (.int .i64 m.kind)).setCell ⟨b, 5, none⟩ (.int .i64 m.frm)).setCell ⟨b, 6, none⟩ (.int .i64 m.too)).setCell ⟨b, 7, none⟩ (.int .i64 m.boot)).setCell ⟨b, 8, none⟩ (.int .i64 m.view)).setCell ⟨b, 9, none⟩ (.int .i64 m.last)).setCell ⟨b, 10, none⟩ (.int .i64 m.mem)).setCell ⟨b, 11, none⟩ (.int .i64 m.pos)).setCell ⟨b, 12, none⟩ (.slice none 0 0)).setCell ⟨b, 13, none⟩ (.int .i64 m.com)).setCell ⟨b, 14, none⟩ (.int .i64 m.num))).heap[b]? = some (.cells #[.int .i64 me, .int .i64 n, .int .i64 boot, .int .i64 promise, .int .i64 m.kind, .int .i64 m.frm, .int .i64 m.too, .int .i64 m.boot, .int .i64 m.view, .int .i64 m.last, .int .i64 m.mem, .int .i64 m.pos, .slice none 0 0, .int .i64 m.com, .int .i64 m.num, .int .i64 m0.clock, .bool m0.yes, .bool got] 75 (0, 0)) := set_at h10
  have h12 : (((((((((((((w.setCell ⟨b, 4, none⟩ (.int .i64 m.kind)).setCell ⟨b, 5, none⟩ (.int .i64 m.frm)).setCell ⟨b, 6, none⟩ (.int .i64 m.too)).setCell ⟨b, 7, none⟩ (.int .i64 m.boot)).setCell ⟨b, 8, none⟩ (.int .i64 m.view)).setCell ⟨b, 9, none⟩ (.int .i64 m.last)).setCell ⟨b, 10, none⟩ (.int .i64 m.mem)).setCell ⟨b, 11, none⟩ (.int .i64 m.pos)).setCell ⟨b, 12, none⟩ (.slice none 0 0)).setCell ⟨b, 13, none⟩ (.int .i64 m.com)).setCell ⟨b, 14, none⟩ (.int .i64 m.num)).setCell ⟨b, 15, none⟩ (.int .i64 m.clock))).heap[b]? = some (.cells #[.int .i64 me, .int .i64 n, .int .i64 boot, .int .i64 promise, .int .i64 m.kind, .int .i64 m.frm, .int .i64 m.too, .int .i64 m.boot, .int .i64 m.view, .int .i64 m.last, .int .i64 m.mem, .int .i64 m.pos, .slice none 0 0, .int .i64 m.com, .int .i64 m.num, .int .i64 m.clock, .bool m0.yes, .bool got] 75 (0, 0)) := set_at h11
  have h13 : ((((((((((((((w.setCell ⟨b, 4, none⟩ (.int .i64 m.kind)).setCell ⟨b, 5, none⟩ (.int .i64 m.frm)).setCell ⟨b, 6, none⟩ (.int .i64 m.too)).setCell ⟨b, 7, none⟩ (.int .i64 m.boot)).setCell ⟨b, 8, none⟩ (.int .i64 m.view)).setCell ⟨b, 9, none⟩ (.int .i64 m.last)).setCell ⟨b, 10, none⟩ (.int .i64 m.mem)).setCell ⟨b, 11, none⟩ (.int .i64 m.pos)).setCell ⟨b, 12, none⟩ (.slice none 0 0)).setCell ⟨b, 13, none⟩ (.int .i64 m.com)).setCell ⟨b, 14, none⟩ (.int .i64 m.num)).setCell ⟨b, 15, none⟩ (.int .i64 m.clock)).setCell ⟨b, 16, none⟩ (.bool m.yes))).heap[b]? = some (.cells #[.int .i64 me, .int .i64 n, .int .i64 boot, .int .i64 promise, .int .i64 m.kind, .int .i64 m.frm, .int .i64 m.too, .int .i64 m.boot, .int .i64 m.view, .int .i64 m.last, .int .i64 m.mem, .int .i64 m.pos, .slice none 0 0, .int .i64 m.com, .int .i64 m.num, .int .i64 m.clock, .bool m.yes, .bool got] 75 (0, 0)) := set_at h12
  have h14 : (((((((((((((((w.setCell ⟨b, 4, none⟩ (.int .i64 m.kind)).setCell ⟨b, 5, none⟩ (.int .i64 m.frm)).setCell ⟨b, 6, none⟩ (.int .i64 m.too)).setCell ⟨b, 7, none⟩ (.int .i64 m.boot)).setCell ⟨b, 8, none⟩ (.int .i64 m.view)).setCell ⟨b, 9, none⟩ (.int .i64 m.last)).setCell ⟨b, 10, none⟩ (.int .i64 m.mem)).setCell ⟨b, 11, none⟩ (.int .i64 m.pos)).setCell ⟨b, 12, none⟩ (.slice none 0 0)).setCell ⟨b, 13, none⟩ (.int .i64 m.com)).setCell ⟨b, 14, none⟩ (.int .i64 m.num)).setCell ⟨b, 15, none⟩ (.int .i64 m.clock)).setCell ⟨b, 16, none⟩ (.bool m.yes)).setCell ⟨b, 17, none⟩ (.bool true))).heap[b]? = some (.cells #[.int .i64 me, .int .i64 n, .int .i64 boot, .int .i64 promise, .int .i64 m.kind, .int .i64 m.frm, .int .i64 m.too, .int .i64 m.boot, .int .i64 m.view, .int .i64 m.last, .int .i64 m.mem, .int .i64 m.pos, .slice none 0 0, .int .i64 m.com, .int .i64 m.num, .int .i64 m.clock, .bool m.yes, .bool true] 75 (0, 0)) := set_at h13
  refine ⟨h14, ?_⟩
  exact chg_set (chg_set (chg_set (chg_set (chg_set (chg_set (chg_set (chg_set (chg_set (chg_set (chg_set (chg_set (chg_set (chg_set (Chg.refl _ _) rfl) rfl) rfl) rfl) rfl) rfl) rfl) rfl) rfl) rfl) rfl) rfl) rfl) rfl

set_option maxRecDepth 100000 in
set_option maxHeartbeats 2000000 in
theorem jHear_got (b : Nat) (me n boot promise : Int) (m0 m : Mg) (w : World) (hj : jnO w b me n boot promise m0 true) :
    Calls Try.prog 17 #[.pointer (some ⟨b, 0, none⟩), m.val] w fun r w' => r = .returned (.bool false) ∧ Below w.heap.size w w' := by
  simp only [Mg.val]
  unfold jnO at hj
  have hlt := at_lt hj
  have e17 := cell_at hj 17
  simp only [List.getElem?_toArray, List.getElem?_cons_zero, List.getElem?_cons_succ] at e17
  replace hj := Lib.hid hj
  have hb1 := Lib.hid ((Below.refl w.heap.size w).alloc (Nat.le_refl _) (m.box 30))
  go_enter Try.func17, Try.ntmps17
  go_wp2
  go_ret
  exact ⟨rfl, hb1.out⟩

structure mayOk (m : Mg) (me n boot : Int) : Prop where
  kind : m.kind = 11
  too : m.too = me
  yes : m.yes = true
  num : m.num = boot
  frm : m.frm = decT m.view n
  v1 : 1 ≤ m.view
  v2 : m.view ≤ 9223372036854775807
  mem : 0 ≤ m.mem ∧ m.mem < 128
  most : mostT m.mem n = true
  has : hasT m.mem.toNat m.frm = true
  com : m.com = 0

set_option maxRecDepth 100000 in
set_option maxHeartbeats 2000000 in
theorem jHear_any (b : Nat) (me n boot promise : Int) (m0 m : Mg) (w : World) (hj : jnO w b me n boot promise m0 false) (hm : mayOk m me n boot) :
    Calls Try.prog 17 #[.pointer (some ⟨b, 0, none⟩), m.val] w fun r w' => r = .returned (.bool (decide (promise ≤ m.view))) ∧
      (promise ≤ m.view → jnO w' b me n boot promise m true ∧ Chg (fun k => k = b) w w') ∧ (m.view < promise → Below w.heap.size w w') := by
  simp only [Mg.val]
  have hj0 := hj
  unfold jnO at hj
  have hlt := at_lt hj
  have e17 := cell_at hj 17
  simp only [List.getElem?_toArray, List.getElem?_cons_zero, List.getElem?_cons_succ] at e17
  replace hj := Lib.hid hj0
  clear hj0
  have hb1 := Lib.hid ((Below.refl w.heap.size w).alloc (Nat.le_refl _) (m.box 30))
  have hj1 := Lib.hid (hj.out.below hb1.out)
  have hx1 := Lib.hid (at_new w (m.box 30))
  replace hm := Lib.hid hm
  go_enter Try.func17, Try.ntmps17
  go_wp2_with fail
  refine (jMay_any b me n boot promise m0 false m _ hj1.out hm.out.kind hm.out.too hm.out.yes hm.out.num hm.out.frm hm.out.v1 hm.out.v2 hm.out.mem hm.out.most hm.out.has hm.out.com).mono ?_
  rintro r w2 ⟨rfl, hb2⟩
  have hB2 := hb1.out.trans (hb2.mono hb1.out.size)
  have hx2 := at_below hx1.out hb2
  have hj2 := hj1.out.below hb2
  have hl2 := at_lt hj2
  clear hb2 e17
  by_cases hp : promise ≤ m.view
  · have d : decide (promise ≤ m.view) = true := by simpa using hp
    rw [d]
    have hpH := Lib.hid hp
    have f0 := cell_at hx2 0
    have f1 := cell_at hx2 1
    have f2 := cell_at hx2 2
    have f3 := cell_at hx2 3
    have f4 := cell_at hx2 4
    have f5 := cell_at hx2 5
    have f6 := cell_at hx2 6
    have f7 := cell_at hx2 7
    have f8 := cell_at hx2 8
    have f9 := cell_at hx2 9
    have f10 := cell_at hx2 10
    have f11 := cell_at hx2 11
    have f12 := cell_at hx2 12
    simp only [List.getElem?_toArray, List.getElem?_cons_zero, List.getElem?_cons_succ] at f0 f1 f2 f3 f4 f5 f6 f7 f8 f9 f10 f11 f12
    replace hx2 := Lib.hid hx2
    replace hj2 := Lib.hid hj2
    replace hB2 := Lib.hid hB2
    clear d hp
    go_wp2_with fail
    refine (jOwn_any m _).mono ?_
    rintro r w3 ⟨rfl, hb3⟩
    have hj3 := hj2.out.below hb3
    have hB3 := hB2.out.trans (hb3.mono hB2.out.size)
    have hset := jn_set (m := m) hj3
    unfold jnO at hj3
    have z4 := free_at hj3 4
    have z5 := free_at hj3 5
    have z6 := free_at hj3 6
    have z7 := free_at hj3 7
    have z8 := free_at hj3 8
    have z9 := free_at hj3 9
    have z10 := free_at hj3 10
    have z11 := free_at hj3 11
    have z12 := free_at hj3 12
    have z13 := free_at hj3 13
    have z14 := free_at hj3 14
    have z15 := free_at hj3 15
    have z16 := free_at hj3 16
    have z17 := free_at hj3 17
    have q4 := cell_at hj3 4
    have q5 := cell_at hj3 5
    have q6 := cell_at hj3 6
    have q7 := cell_at hj3 7
    have q8 := cell_at hj3 8
    have q9 := cell_at hj3 9
    have q10 := cell_at hj3 10
    have q11 := cell_at hj3 11
    have q12 := cell_at hj3 12
    have q13 := cell_at hj3 13
    have q14 := cell_at hj3 14
    have q15 := cell_at hj3 15
    have q16 := cell_at hj3 16
    have q17 := cell_at hj3 17
    simp only [List.getElem?_toArray, List.getElem?_cons_zero, List.getElem?_cons_succ] at q4 q5 q6 q7 q8 q9 q10 q11 q12 q13 q14 q15 q16 q17
    have hl3 := at_lt hj3
    have hfin : ∀ w', (jnO w' b me n boot promise m true ∧ Chg (fun k => k = b) w3 w') → (jnO w' b me n boot promise m true ∧ Chg (fun k => k = b) w w') := fun w' h =>
      ⟨h.1, (Chg.of_below hB3).trans (h.2.mono fun k _ e => .inl e)⟩
    clear f0 f1 f2 f3 f4 f5 f6 f7 f8 f9 f10 f11 f12
    replace hj3 := Lib.hid hj3
    replace hset := Lib.hid hset
    replace hfin := Lib.hid hfin
    replace hB3 := Lib.hid hB3
    simp only [Mg.val]
    go_wp2
    go_ret
    exact ⟨ret_bool (by have := hpH.out; simp <;> omega), fun _ => hfin.out _ hset.out, fun h => by have := hpH.out; omega⟩
  · have d : decide (promise ≤ m.view) = false := by simpa using hp
    rw [d]
    have hpH := Lib.hid hp
    clear hp d
    replace hB2 := Lib.hid hB2
    clear hx2 hj2
    go_wp2
    go_ret
    exact ⟨ret_bool (by have := hpH.out; simp <;> omega), fun h => by have := hpH.out; omega, fun _ => hB2.out⟩

set_option maxRecDepth 100000 in
set_option maxHeartbeats 4000000 in
theorem jGot_any (b : Nat) (me n boot promise : Int) (m : Mg) (got : Bool) (w : World) (hj : jnO w b me n boot promise m got) :
    Calls Try.prog 16 #[.pointer (some ⟨b, 0, none⟩)] w fun r w' => r = .returned (.tuple #[m.val, .bool got]) ∧ Below w.heap.size w w' := by
  obtain ⟨W1, hW1⟩ : ∃ W, W = w.alloc (mg0.box 30) := ⟨_, rfl⟩
  have hb1 : Below w.heap.size w W1 := hW1 ▸ (Below.refl _ _).alloc (Nat.le_refl _) _
  have hx1 : W1.heap[w.heap.size]? = some (mg0.box 30) := hW1 ▸ at_new _ _
  have hjl := at_lt hj
  unfold jnO at hj
  have f4 := cell_at hj 4
  have f5 := cell_at hj 5
  have f6 := cell_at hj 6
  have f7 := cell_at hj 7
  have f8 := cell_at hj 8
  have f9 := cell_at hj 9
  have f10 := cell_at hj 10
  have f11 := cell_at hj 11
  have f12 := cell_at hj 12
  have f13 := cell_at hj 13
  have f14 := cell_at hj 14
  have f15 := cell_at hj 15
  have f16 := cell_at hj 16
  have f17 := cell_at hj 17
  simp only [List.getElem?_toArray, List.getElem?_cons_zero, List.getElem?_cons_succ] at f4 f5 f6 f7 f8 f9 f10 f11 f12 f13 f14 f15 f16 f17
  replace hb1 := Lib.hid hb1
  replace hx1 := Lib.hid hx1
  replace hj := Lib.hid hj
  obtain ⟨nb, hnb⟩ : ∃ nb, nb = w.heap.size := ⟨_, rfl⟩
  rw [← hnb] at hx1
  have hne : ¬ nb = b := by omega
  have hne2 : ¬ b = nb := by omega
  have hge : w.heap.size ≤ nb := Nat.le_of_eq hnb.symm
  go_enter Try.func16, Try.ntmps16
  go_upto_region 3 with (fail)
  rw [← hW1, ← hnb]
  clear hW1
  replace hnb := Lib.hid hnb
  have u4 := upTo_cell f4
  have u5 := upTo_cell f5
  have u6 := upTo_cell f6
  have u7 := upTo_cell f7
  have u8 := upTo_cell f8
  have u9 := upTo_cell f9
  have u10 := upTo_cell f10
  have u11 := upTo_cell f11
  have u12 := upTo_cell f12
  have u13 := upTo_cell f13
  have u14 := upTo_cell f14
  have u15 := upTo_cell f15
  have u16 := upTo_cell f16
  have u17 := upTo_cell f17
  refine wp_region_pl w (.q 0 (.q 1 (.q 2 (.q 3 (.q 5 (.q 6 (.q 7 (.two 4 (.two 8 (.l 9 (.q 10 .fin)) 9 (.l 8 (.q 10 .fin))) 8 (.l 4 (.l 9 (.q 10 .fin))))))))))) (by kernel_rfl) (by kernel_rfl) hb1.out ?_
  intro y0 hheap hv0 hbw
  have hx0 : y0.heap[nb]? = some (mg0.box 30) := by rw [hheap]; exact hx1.out
  have e17 := hv0.cell (p := ⟨b, 17, none⟩) hjl
  rw [f17] at e17
  clear hheap hbw
  iterate 7 (refine pl_q rfl ?_; go_big_quiet_step (fail); refine wpQuiet_nil ?_)
  clear u4 u5 u6 u7 u8 u9 u10 u11 u12 u13 u14 u15 u16 u17 f4 f5 f6 f7 f8 f9 f10 f11 f12 f13 f14 f15 f16
  refine pl_two ?_ ?_
  · refine pl_l rfl (by kernel_rfl) ?_
    intro K hK
    go_simp
    refine (jOwn_any m _).mono ?_
    rintro r y1 ⟨rfl, hbo⟩
    have hv1 := hv0.trans (hbo.mono hv0.size)
    have hx2 := at_below hx0 hbo
    have e17 := hv1.cell (p := ⟨b, 17, none⟩) hjl
    rw [f17] at e17
    refine hK w _ _ (Below.refl _ _) hv1 ?_
    clear hK K hbo
    refine pl_two ?_ ?_
    · refine pl_l rfl (by kernel_rfl) ?_
      intro K hK
      go_simp
      refine hK w _ _ (Below.refl _ _) hv1 ?_
      clear hK K
      have g0 := cell_at hx2 0
      have g1 := cell_at hx2 1
      have g2 := cell_at hx2 2
      have g3 := cell_at hx2 3
      have g4 := cell_at hx2 4
      have g5 := cell_at hx2 5
      have g6 := cell_at hx2 6
      have g7 := cell_at hx2 7
      have g8 := cell_at hx2 8
      have g9 := cell_at hx2 9
      have g10 := cell_at hx2 10
      have g11 := cell_at hx2 11
      have g12 := cell_at hx2 12
      have t0 := free_at hx2 0
      have t1 := free_at hx2 1
      have t2 := free_at hx2 2
      have t3 := free_at hx2 3
      have t4 := free_at hx2 4
      have t5 := free_at hx2 5
      have t6 := free_at hx2 6
      have t7 := free_at hx2 7
      have t8 := free_at hx2 8
      have t9 := free_at hx2 9
      have t10 := free_at hx2 10
      have t11 := free_at hx2 11
      have t12 := free_at hx2 12
      simp only [List.getElem?_toArray, List.getElem?_cons_zero, List.getElem?_cons_succ] at g0 g1 g2 g3 g4 g5 g6 g7 g8 g9 g10 g11 g12
      have hnl := at_lt hx2
      have hW : Below w.heap.size w ((((((((((((((y1.setCell ⟨nb, 0, none⟩ (.int .i64 m.kind)).setCell ⟨nb, 1, none⟩ (.int .i64 m.frm)).setCell ⟨nb, 2, none⟩ (.int .i64 m.too)).setCell ⟨nb, 3, none⟩ (.int .i64 m.boot)).setCell ⟨nb, 4, none⟩ (.int .i64 m.view)).setCell ⟨nb, 5, none⟩ (.int .i64 m.last)).setCell ⟨nb, 6, none⟩ (.int .i64 m.mem)).setCell ⟨nb, 7, none⟩ (.int .i64 m.pos)).setCell ⟨nb, 8, none⟩ (.slice none 0 0)).setCell ⟨nb, 9, none⟩ (.int .i64 m.com)).setCell ⟨nb, 10, none⟩ (.int .i64 m.num)).setCell ⟨nb, 11, none⟩ (.int .i64 m.clock)).setCell ⟨nb, 12, none⟩ (.bool m.yes))) := ((((((((((((hv1.setCell hge _).setCell hge _).setCell hge _).setCell hge _).setCell hge _).setCell hge _).setCell hge _).setCell hge _).setCell hge _).setCell hge _).setCell hge _).setCell hge _).setCell hge _
      replace hW := Lib.hid hW
      refine pl_l rfl (by kernel_rfl) ?_
      intro K hK
      simp only [Mg.val]
      go_simp
      refine hK w _ _ (Below.refl _ _) hW.out ?_
      clear hK K
      refine pl_q rfl ?_
      go_big_quiet_step (fail)
      refine wpQuiet_nil ?_
      refine pl_fin ?_
      go_wp2
      exact bodyPost_ret (v := .tuple #[m.val, .bool got]) (by simp [results, Try.results16, go_sem, hnl, g0, g1, g2, g3, g4, g5, g6, g7, g8, g9, g10, g11, g12]) rfl ⟨rfl, hW.out⟩
    · have g0 := cell_at hx2 0
      have g1 := cell_at hx2 1
      have g2 := cell_at hx2 2
      have g3 := cell_at hx2 3
      have g4 := cell_at hx2 4
      have g5 := cell_at hx2 5
      have g6 := cell_at hx2 6
      have g7 := cell_at hx2 7
      have g8 := cell_at hx2 8
      have g9 := cell_at hx2 9
      have g10 := cell_at hx2 10
      have g11 := cell_at hx2 11
      have g12 := cell_at hx2 12
      have t0 := free_at hx2 0
      have t1 := free_at hx2 1
      have t2 := free_at hx2 2
      have t3 := free_at hx2 3
      have t4 := free_at hx2 4
      have t5 := free_at hx2 5
      have t6 := free_at hx2 6
      have t7 := free_at hx2 7
      have t8 := free_at hx2 8
      have t9 := free_at hx2 9
      have t10 := free_at hx2 10
      have t11 := free_at hx2 11
      have t12 := free_at hx2 12
      simp only [List.getElem?_toArray, List.getElem?_cons_zero, List.getElem?_cons_succ] at g0 g1 g2 g3 g4 g5 g6 g7 g8 g9 g10 g11 g12
      have hnl := at_lt hx2
      have hW : Below w.heap.size w ((((((((((((((y1.setCell ⟨nb, 0, none⟩ (.int .i64 m.kind)).setCell ⟨nb, 1, none⟩ (.int .i64 m.frm)).setCell ⟨nb, 2, none⟩ (.int .i64 m.too)).setCell ⟨nb, 3, none⟩ (.int .i64 m.boot)).setCell ⟨nb, 4, none⟩ (.int .i64 m.view)).setCell ⟨nb, 5, none⟩ (.int .i64 m.last)).setCell ⟨nb, 6, none⟩ (.int .i64 m.mem)).setCell ⟨nb, 7, none⟩ (.int .i64 m.pos)).setCell ⟨nb, 8, none⟩ (.slice none 0 0)).setCell ⟨nb, 9, none⟩ (.int .i64 m.com)).setCell ⟨nb, 10, none⟩ (.int .i64 m.num)).setCell ⟨nb, 11, none⟩ (.int .i64 m.clock)).setCell ⟨nb, 12, none⟩ (.bool m.yes))) := ((((((((((((hv1.setCell hge _).setCell hge _).setCell hge _).setCell hge _).setCell hge _).setCell hge _).setCell hge _).setCell hge _).setCell hge _).setCell hge _).setCell hge _).setCell hge _).setCell hge _
      replace hW := Lib.hid hW
      refine pl_l rfl (by kernel_rfl) ?_
      intro K hK
      simp only [Mg.val]
      go_simp
      refine hK w _ _ (Below.refl _ _) hW.out ?_
      clear hK K
      refine pl_l rfl (by kernel_rfl) ?_
      intro K hK
      go_simp
      refine hK w _ _ (Below.refl _ _) hW.out ?_
      clear hK K
      refine pl_q rfl ?_
      go_big_quiet_step (fail)
      refine wpQuiet_nil ?_
      refine pl_fin ?_
      go_wp2
      exact bodyPost_ret (v := .tuple #[m.val, .bool got]) (by simp [results, Try.results16, go_sem, hnl, g0, g1, g2, g3, g4, g5, g6, g7, g8, g9, g10, g11, g12]) rfl ⟨rfl, hW.out⟩
  · refine pl_l rfl (by kernel_rfl) ?_
    intro K hK
    go_simp
    refine hK w _ _ (Below.refl _ _) hv0 ?_
    clear hK K
    refine pl_l rfl (by kernel_rfl) ?_
    intro K hK
    go_simp
    refine (jOwn_any m _).mono ?_
    rintro r y1 ⟨rfl, hbo⟩
    have hv1 := hv0.trans (hbo.mono hv0.size)
    have hx2 := at_below hx0 hbo
    have e17 := hv1.cell (p := ⟨b, 17, none⟩) hjl
    rw [f17] at e17
    refine hK w _ _ (Below.refl _ _) hv1 ?_
    clear hK K hbo
    have g0 := cell_at hx2 0
    have g1 := cell_at hx2 1
    have g2 := cell_at hx2 2
    have g3 := cell_at hx2 3
    have g4 := cell_at hx2 4
    have g5 := cell_at hx2 5
    have g6 := cell_at hx2 6
    have g7 := cell_at hx2 7
    have g8 := cell_at hx2 8
    have g9 := cell_at hx2 9
    have g10 := cell_at hx2 10
    have g11 := cell_at hx2 11
    have g12 := cell_at hx2 12
    have t0 := free_at hx2 0
    have t1 := free_at hx2 1
    have t2 := free_at hx2 2
    have t3 := free_at hx2 3
    have t4 := free_at hx2 4
    have t5 := free_at hx2 5
    have t6 := free_at hx2 6
    have t7 := free_at hx2 7
    have t8 := free_at hx2 8
    have t9 := free_at hx2 9
    have t10 := free_at hx2 10
    have t11 := free_at hx2 11
    have t12 := free_at hx2 12
    simp only [List.getElem?_toArray, List.getElem?_cons_zero, List.getElem?_cons_succ] at g0 g1 g2 g3 g4 g5 g6 g7 g8 g9 g10 g11 g12
    have hnl := at_lt hx2
    have hW : Below w.heap.size w ((((((((((((((y1.setCell ⟨nb, 0, none⟩ (.int .i64 m.kind)).setCell ⟨nb, 1, none⟩ (.int .i64 m.frm)).setCell ⟨nb, 2, none⟩ (.int .i64 m.too)).setCell ⟨nb, 3, none⟩ (.int .i64 m.boot)).setCell ⟨nb, 4, none⟩ (.int .i64 m.view)).setCell ⟨nb, 5, none⟩ (.int .i64 m.last)).setCell ⟨nb, 6, none⟩ (.int .i64 m.mem)).setCell ⟨nb, 7, none⟩ (.int .i64 m.pos)).setCell ⟨nb, 8, none⟩ (.slice none 0 0)).setCell ⟨nb, 9, none⟩ (.int .i64 m.com)).setCell ⟨nb, 10, none⟩ (.int .i64 m.num)).setCell ⟨nb, 11, none⟩ (.int .i64 m.clock)).setCell ⟨nb, 12, none⟩ (.bool m.yes))) := ((((((((((((hv1.setCell hge _).setCell hge _).setCell hge _).setCell hge _).setCell hge _).setCell hge _).setCell hge _).setCell hge _).setCell hge _).setCell hge _).setCell hge _).setCell hge _).setCell hge _
    replace hW := Lib.hid hW
    refine pl_l rfl (by kernel_rfl) ?_
    intro K hK
    simp only [Mg.val]
    go_simp
    refine hK w _ _ (Below.refl _ _) hW.out ?_
    clear hK K
    refine pl_q rfl ?_
    go_big_quiet_step (fail)
    refine wpQuiet_nil ?_
    refine pl_fin ?_
    go_wp2
    exact bodyPost_ret (v := .tuple #[m.val, .bool got]) (by simp [results, Try.results16, go_sem, hnl, g0, g1, g2, g3, g4, g5, g6, g7, g8, g9, g10, g11, g12]) rfl ⟨rfl, hW.out⟩

end Go.Proofs.Ytacchkmdheglaaa
