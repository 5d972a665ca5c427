/- Contracts: is it there; the same lists. -/
import Derived.Test.YtacchkmdheglaaaEntA
import Derived.Test.YtacchkmdheglaaaListP
import Derived.StillTailTactics
namespace Go.Proofs.Ytacchkmdheglaaa
open Go.RowKit
set_option linter.unusedVariables false

/-- an element's cells, asked for in a later world -/
theorem at_later {w wr : World} {b off k : Nat} {e : Ent} (hc : cellsE w b (off + k * 7) e) (hb : Below w.heap.size w wr) : cellsE wr b (off + k * 7) e := hc.below hb hc.lt

set_option maxRecDepth 100000 in
set_option maxHeartbeats 400000 in
theorem logHasC_any (x e : Ent) (b : Nat) (w : World) (h : cellsE w b 0 e) :
    Calls Try.prog 66 #[x.val, .pointer (some ⟨b, 0, none⟩)] w fun r w' => r = .returned (.bool (sameE x e)) ∧ Below w.heap.size w w' := by
  have hlt := h.lt
  obtain ⟨c0, c1, c2, c3, c4, c5, c6⟩ := h
  rw [Nat.zero_add] at c1 c2 c3 c4 c5 c6
  obtain ⟨a1, a2, a3, a4, a5, a6, a7⟩ := x
  simp only [Ent.val]
  go_enter Try.func66, Try.ntmps66
  go_wp2_with fail
  refine (same_any ⟨a1, a2, a3, a4, a5, a6, a7⟩ e _).mono ?_
  rintro r w1 ⟨rfl, hb⟩
  go_wp2
  go_ret
  exact ⟨rfl, ((Below.refl _ _).alloc (Nat.le_refl _) _).trans (hb.mono (by simp))⟩

set_option maxRecDepth 100000 in
set_option maxHeartbeats 400000 in
theorem sIndex_any (v : Value) (l : List Ent) (e : Ent) (b : Nat) (w : World) (hr : rdE w v l) (hb : cellsE w b 0 e) :
    Calls Try.prog 68 #[v, .func (.func 66) #[] #[.pointer (some ⟨b, 0, none⟩)]] w fun r w' => (∃ n : Int, r = .returned (.int .i64 n) ∧ decide (0 ≤ n) = hasE l e) ∧ Below w.heap.size w w' := by
  obtain ⟨a, cap, rfl, hm, hM, ha⟩ := hr
  unfold maxLen at hM
  replace ha := Lib.hid ha
  replace hb := Lib.hid hb
  go_enter Try.func68, Try.ntmps68
  go_wp2
  go_loopw [8] (fun i wr => ∃ k : Nat, k ≤ l.length ∧ i = .int .i64 k ∧ hasE (l.take k) e = false ∧ Below w.heap.size w wr) (fun i _ => l.length - (intOf i).toNat)
  case atStart => exact ⟨0, Nat.zero_le _, rfl, rfl, Below.refl _ _⟩
  case round =>
    obtain ⟨k, hk, rfl, hno, hbel⟩ := hrel
    replace hno := Lib.hid hno
    by_cases hlt : k < l.length
    · obtain ⟨bl, off, rfl, hc⟩ := ha.out (by omega)
      have hck := at_later (hc k hlt) hbel
      have hs := Lib.hid (hasE_take l e k hlt)
      clear hc
      generalize l[k] = x at hck hs
      obtain ⟨c0, c1, c2, c3, c4, c5, c6⟩ := hck
      have hbb : cellsE wr b 0 e := hb.out.below hbel hb.out.lt
      go_wp2_with fail
      refine (logHasC_any x e b _ hbb).mono ?_
      rintro r w1 ⟨rfl, hb1⟩
      have hbel1 := hbel.trans (hb1.mono hbel.size)
      clear hb1 hbel c0 c1 c2 c3 c4 c5 c6 hbb
      cases hsm : sameE x e
      · go_wp2
        go_roundw
        case rel => exact ⟨k + 1, by omega, by go_num, by rw [hs.out, hno.out, hsm]; rfl, hbel1⟩
        case measure => simp [intOf]; omega
      · go_wp2
        go_ret
        exact ⟨⟨(k : Int), rfl, by rw [hasE_true l e (k + 1) (by rw [hs.out, hsm, Bool.or_true])]; simp⟩, hbel1⟩
    · obtain rfl : k = l.length := by omega
      rw [List.take_length] at hno
      go_wp2
      go_ret
      exact ⟨⟨-1, rfl, by rw [hno.out]; rfl⟩, hbel⟩

set_option maxRecDepth 100000 in
set_option maxHeartbeats 400000 in
theorem sContains_any (v : Value) (l : List Ent) (e : Ent) (b : Nat) (w : World) (hr : rdE w v l) (hb : cellsE w b 0 e) :
    Calls Try.prog 65 #[v, .func (.func 66) #[] #[.pointer (some ⟨b, 0, none⟩)]] w fun r w' => r = .returned (.bool (hasE l e)) ∧ Below w.heap.size w w' := by
  go_enter Try.func65, Try.ntmps65
  go_wp2_with fail
  refine (sIndex_any v l e b w hr hb).mono ?_
  rintro r w1 ⟨⟨n, rfl, hn⟩, hb1⟩
  replace hn := Lib.hid hn
  go_wp2
  go_ret
  exact ⟨ret_bool hn.out, hb1⟩

/-- a box of one entry -/
theorem box_cells (w : World) (e : Ent) (E : TypeId) : cellsE (w.alloc (.cells #[.int .i64 e.frm, .int .i64 e.boot, .int .i64 e.seq, .int .i64 e.ord, .int .i64 e.lev, .int .i64 e.stamp, .string e.data] E)) w.heap.size 0 e := by
  simp [cellsE]
theorem below_box {w w' : World} (o : Obj) (h : Below (w.alloc o).heap.size (w.alloc o) w') : Below w.heap.size w w' :=
  ((Below.refl _ _).alloc (Nat.le_refl _) _).trans (h.mono (by simp))

set_option maxRecDepth 100000 in
set_option maxHeartbeats 400000 in
theorem r12Has_any (v : Value) (l : List Ent) (e : Ent) (w : World) (hr : rdE w v l) :
    Calls Try.prog 58 #[v, e.val] w fun r w' => r = .returned (.bool (hasE l e)) ∧ Below w.heap.size w w' := by
  have hbx := box_cells w e 67
  have hr := hr.grow ((Below.refl _ w).alloc (Nat.le_refl _) (.cells #[.int .i64 e.frm, .int .i64 e.boot, .int .i64 e.seq, .int .i64 e.ord, .int .i64 e.lev, .int .i64 e.stamp, .string e.data] 67))
  obtain ⟨a, cap, rfl, hm, hM, ha⟩ := hr
  unfold maxLen at hM
  have hblw := Lib.hid (fun w' => below_box (w := w) (w' := w') (.cells #[.int .i64 e.frm, .int .i64 e.boot, .int .i64 e.seq, .int .i64 e.ord, .int .i64 e.lev, .int .i64 e.stamp, .string e.data] 67))
  replace ha := Lib.hid ha
  replace hbx := Lib.hid hbx
  simp only [Ent.val]
  go_enter Try.func58, Try.ntmps58
  go_wp2
  obtain ⟨W, hW⟩ : ∃ W, W = w.alloc (.cells #[.int .i64 e.frm, .int .i64 e.boot, .int .i64 e.seq, .int .i64 e.ord, .int .i64 e.lev, .int .i64 e.stamp, .string e.data] 67) := ⟨_, rfl⟩
  rw [← hW] at ha hbx hblw ⊢
  clear hW
  go_loopw [5] (fun i wr => ∃ k : Nat, k ≤ l.length ∧ i = .int .i64 k ∧ hasE (l.take k) e = false ∧ Below W.heap.size W wr) (fun i _ => l.length - (intOf i).toNat)
  case atStart => exact ⟨0, Nat.zero_le _, rfl, rfl, Below.refl _ _⟩
  case round =>
    obtain ⟨k, hk, rfl, hno, hbel⟩ := hrel
    replace hno := Lib.hid hno
    by_cases hlt : k < l.length
    · obtain ⟨bl, off, rfl, hc⟩ := ha.out (by omega)
      have hck := at_later (hc k hlt) hbel
      have hs := Lib.hid (hasE_take l e k hlt)
      clear hc
      generalize l[k] = x at hck hs
      obtain ⟨c0, c1, c2, c3, c4, c5, c6⟩ := hck
      have hbb : cellsE wr w.heap.size 0 e := hbx.out.below hbel hbx.out.lt
      obtain ⟨d0, d1, d2, d3, d4, d5, d6⟩ := hbb
      rw [Nat.zero_add] at d1 d2 d3 d4 d5 d6
      go_wp2
      go_still_tail 5, (by kernel_rfl)
      have hbel1 := hbel.drew
      have hsz := hbel1.size
      clear hbel c0 c1 c2 c3 c4 c5 c6 d0 d1 d2 d3 d4 d5 d6
      change wpList _ _ _ _ _ wr.drew
      generalize wr.drew = w2 at hbel1 hsz ⊢
      go_wp2_with fail
      refine (rsame_any x e _).mono ?_
      rintro r w1 ⟨rfl, hb1⟩
      have hbel2 := hbel1.trans (hb1.mono hsz)
      clear hb1 hbel1
      cases hsm : sameE x e
      · go_wp2
        go_roundw
        case rel => exact ⟨k + 1, by omega, by go_num, by rw [hs.out, hno.out, hsm]; rfl, hbel2⟩
        case measure => simp [intOf]; omega
      · go_wp2
        go_ret
        exact ⟨ret_bool (by rw [hasE_true l e (k + 1) (by rw [hs.out, hsm, Bool.or_true])]), hblw.out _ hbel2⟩
    · obtain rfl : k = l.length := by omega
      rw [List.take_length] at hno
      go_wp2
      go_ret
      exact ⟨ret_bool hno.out.symm, hblw.out _ hbel⟩
end Go.Proofs.Ytacchkmdheglaaa
