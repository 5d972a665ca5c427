/- Contract: the reference's vote that counts. -/
import Derived.Test.YtacchkmdheglaaaVtR
namespace Go.Proofs.Ytacchkmdheglaaa
open Go.RowKit
set_option linter.unusedVariables false

theorem better_cases (x y : Vt) : (y.last < x.last ∧ betterV x y = true) ∨ (x.last < y.last ∧ betterV x y = false) ∨
    (x.last = y.last ∧ y.lg.length < x.lg.length ∧ betterV x y = true) ∨ (x.last = y.last ∧ x.lg.length < y.lg.length ∧ betterV x y = false) ∨ (x.last = y.last ∧ x.lg.length = y.lg.length ∧ betterV x y = decide (x.frm < y.frm)) := by
  unfold betterV
  rcases Int.lt_trichotomy x.last y.last with h | h | h
  · have : (x.last != y.last) = true := by simp; omega
    rw [if_pos this]; exact .inr (.inl ⟨h, by simp; omega⟩)
  · have : ¬ (x.last != y.last) = true := by simp [h]
    rw [if_neg this]
    rcases Nat.lt_trichotomy x.lg.length y.lg.length with k | k | k
    · have : (x.lg.length != y.lg.length) = true := by simp; omega
      rw [if_pos this]; exact .inr (.inr (.inr (.inl ⟨h, k, by simp; omega⟩)))
    · have : ¬ (x.lg.length != y.lg.length) = true := by simp [k]
      rw [if_neg this]; exact .inr (.inr (.inr (.inr ⟨h, k, rfl⟩)))
    · have : (x.lg.length != y.lg.length) = true := by simp; omega
      rw [if_pos this]; exact .inr (.inr (.inl ⟨h, k, by simp; omega⟩))
  · have : (x.last != y.last) = true := by simp; omega
    rw [if_pos this]; exact .inl ⟨h, by simp; omega⟩

set_option maxRecDepth 100000 in
set_option maxHeartbeats 1000000 in
theorem r19Best_no (b : Nat) (view n : Int) (l : List VtS) (w : World) (hr : rdVs w b view n l) (hg : goodV l) (hm : mostT (teamV l) n = false) :
    Calls Try.prog 25 #[.pointer (some ⟨b, 0, none⟩)] w fun r w' => r = .returned (.tuple #[.agg #[.int .i64 0, .int .i64 0, .slice none 0 0, .int .i64 0], .bool false]) ∧ Below w.heap.size w w' := by
  obtain ⟨W1, hW1⟩ : ∃ W, W = w.alloc (boxV 0 0 (.slice none 0 0) 0 51) := ⟨_, rfl⟩
  have hb1 : Below w.heap.size w W1 := hW1 ▸ (Below.refl _ _).alloc (Nat.le_refl _) _
  have hn1 : W1.heap[w.heap.size]? = some (boxV 0 0 (.slice none 0 0) 0 51) := hW1 ▸ at_new _ _
  have hr1 := Lib.hid (hr.grow hb1)
  have h1u := upTo_cell hr1.out.2.1
  have HT : Hid (∀ x, Calls Try.prog 27 #[.pointer (some ⟨b, 0, none⟩)] (upTo W1 x) fun r w' => r = .returned (.int .i64 (teamV l)) ∧ ∃ y, w' = upTo W1 y) := Lib.hid fun x => call_up_eq (r19Team_any b view n l _ (hr1.out.grow (upTo_below W1 x)) hg)
  have HM : Hid (∀ x, Calls Try.prog 29 #[.int .i64 (teamV l), .int .i64 n] (upTo W1 x) fun r w' => r = .returned (.bool false) ∧ ∃ y, w' = upTo W1 y) := Lib.hid fun x => by rw [← hm]; exact call_up (rmost_any _ _ _)
  replace hm := Lib.hid hm
  replace hn1 := Lib.hid hn1
  replace hb1 := Lib.hid hb1
  clear hr
  go_enter Try.func25, Try.ntmps25
  go_upto_region 1 with (fail)
  rw [← hW1]
  clear hW1
  refine wp_region_up (by kernel_rfl) (by kernel_rfl) ?_
  repeat (go_big_quiet_step ((first | (go_at_call 27; exact HT.out _) | (go_at_call 29; exact HM.out _))))
  refine wpQuiet_nil ?_
  intro w2 hw2
  have hb2 := up_below hw2
  clear hw2 h1u
  have hn2 := at_below hn1.out hb2
  have c0 := cell_at hn2 0
  have c1 := cell_at hn2 1
  have c2 := cell_at hn2 2
  have c3 := cell_at hn2 3
  have z0 := free_at hn2 0
  have z1 := free_at hn2 1
  have z2 := free_at hn2 2
  have z3 := free_at hn2 3
  have hz := at_lt hn2
  simp only [List.getElem?_toArray, List.getElem?_cons_zero, List.getElem?_cons_succ] at c0 c1 c2 c3
  replace hn2 := Lib.hid hn2
  have hB := hb1.out.trans (hb2.mono hb1.out.size)
  replace hB := Lib.hid hB
  clear hb2
  go_wp2
  exact bodyPost_ret (v := .tuple #[.agg #[.int .i64 0, .int .i64 0, .slice none 0 0, .int .i64 0], .bool false]) (by simp [results, Try.results25, go_sem, c0, c1, c2, c3, hz]) rfl ⟨rfl, ((((hB.out.setCell (Nat.le_refl _) _).setCell (Nat.le_refl _) _).setCell (Nat.le_refl _) _).setCell (Nat.le_refl _) _)⟩
end Go.Proofs.Ytacchkmdheglaaa
