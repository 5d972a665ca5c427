/- Contracts: a log is made of entries. -/
import Derived.Test.YtacchkmdheglaaaLogA
namespace Go.Proofs.Ytacchkmdheglaaa
open Go.RowKit
set_option linter.unusedVariables false

theorem logAdd_any (b : Nat) (l : List Ent) (e : Ent) (F : Nat → Prop) (w : World) (hr : lgO w F b l) (hl : l.length ≤ 60) :
    Calls Try.prog 53 #[.pointer (some ⟨b, 0, none⟩), e.val] w fun r w' => r = .returned (.bool (okAdd l e)) ∧ lgO w' (Gr F w w') b (addE l e) ∧ Chg F w w' := by
  cases h : okAdd l e
  · refine (logAdd_no b l e F w hr hl h).mono ?_
    rintro r w' ⟨rfl, hb⟩
    have e : addE l e = l := by rw [addE, if_neg (by rw [h]; exact Bool.false_ne_true)]
    rw [e]
    exact ⟨rfl, hr.end_ hb⟩
  · refine (logAdd_yes b l e F w hr h).mono ?_
    rintro r w' ⟨rfl, hb⟩
    have e : addE l e = l ++ [e] := by rw [addE, if_pos h]
    rw [e]
    exact ⟨rfl, hb⟩

/-- a log of entries one by one -/
def logE (es : List Ent) : List Ent := es.foldl addE []
theorem logE_snoc (es : List Ent) (k : Nat) (h : k < es.length) : logE (es.take (k + 1)) = addE (logE (es.take k)) es[k] := by
  unfold logE; rw [List.take_succ_eq_append_getElem h, List.foldl_append]; rfl
theorem foldl_add_len (es : List Ent) : ∀ l : List Ent, l.length ≤ 60 → (es.foldl addE l).length ≤ 60 := by
  induction es with
  | nil => exact fun l h => h
  | cons e es ih => exact fun l h => ih _ (addE_len l e h)
theorem logE_len (es : List Ent) : (logE es).length ≤ 60 := foldl_add_len es [] (by simp)

/-- new blocks of a call -/
abbrev News (w wr : World) : Nat → Prop := fun k => w.heap.size ≤ k ∧ k < wr.heap.size

set_option maxRecDepth 100000 in
set_option maxHeartbeats 800000 in
theorem logNew_any (v : Value) (es : List Ent) (w : World) (hr : rdE w v es) :
    Calls Try.prog 39 #[v] w fun r w' => ∃ b, r = .returned (.pointer (some ⟨b, 0, none⟩)) ∧ w.heap.size ≤ b ∧ lgO w' (News w w') b (logE es) ∧ Below w.heap.size w w' := by
  obtain ⟨a, cap, rfl, hm, hM, ha⟩ := hr
  unfold maxLen at hM
  replace ha := Lib.hid ha
  have hbe : Below w.heap.size w (w.alloc (.cells #[.slice none 0 0] 90)) := (Below.refl _ w).alloc (Nat.le_refl _) _
  have hst : lgO (w.alloc (.cells #[.slice none 0 0] 90)) (News w (w.alloc (.cells #[.slice none 0 0] 90))) w.heap.size [] :=
    ⟨⟨Nat.le_refl _, by simp⟩, _, heap_alloc_new w _, World.ownsRow_nil _ _ _ _, fun k hk => by cases hk⟩
  replace hbe := Lib.hid hbe
  replace hst := Lib.hid hst
  go_enter Try.func39, Try.ntmps39
  go_wp2
  go_loopw [10] (fun i wr => ∃ k : Nat, k ≤ es.length ∧ i = .int .i64 k ∧ lgO wr (News w wr) w.heap.size (logE (es.take k)) ∧ Below w.heap.size w wr) (fun i _ => es.length - (intOf i).toNat)
  case atStart => exact ⟨0, Nat.zero_le _, rfl, hst.out, hbe.out⟩
  case round =>
    obtain ⟨k, hk, rfl, hlg, hbel⟩ := hrel
    replace hlg := Lib.hid hlg
    by_cases hlt : k < es.length
    · obtain ⟨bl, off, rfl, hc⟩ := ha.out (by omega)
      have hck := at_later (hc k hlt) hbel
      have hs := Lib.hid (logE_snoc es k hlt)
      clear hc
      generalize es[k] = x at hck hs
      obtain ⟨c0, c1, c2, c3, c4, c5, c6⟩ := hck
      have hsz := hbel.size
      have hl60 := logE_len (es.take k)
      have hlg2 : ∀ o, lgO (wr.alloc o) (News w (wr.alloc o)) w.heap.size (logE (es.take k)) := fun o =>
        (hlg.out.grow ((Below.refl _ _).alloc (Nat.le_refl _) o)).mono fun k hk => ⟨hk.1, by simp; omega⟩
      replace hlg2 := Lib.hid hlg2
      go_wp2_with fail
      refine (logAdd_any _ _ x _ _ (hlg2.out _) hl60).mono ?_
      rintro r w1 ⟨rfl, h1, h2⟩
      have hB1 : Below w.heap.size w w1 := (hbel.alloc hsz _).trans (h2.below (by simp; omega) fun k hk => hk.1)
      have h3 : lgO w1 (News w w1) w.heap.size (logE (es.take (k + 1))) := by
        rw [hs.out]
        refine h1.mono fun k hk => ?_
        have := h2.size
        rcases hk with hk | hk
        · exact ⟨hk.1, Nat.lt_of_lt_of_le hk.2 this⟩
        · have := hk.1; simp at this; exact ⟨by omega, hk.2⟩
      clear h1 h2 hbel c0 c1 c2 c3 c4 c5 c6
      go_wp2
      go_roundw
      case rel => exact ⟨k + 1, by omega, by go_num, h3, hB1⟩
      case measure => simp [intOf]; omega
    · obtain rfl : k = es.length := by omega
      rw [List.take_length] at hlg
      go_wp2
      go_ret
      exact ⟨_, rfl, Nat.le_refl _, hlg.out, hbel⟩
end Go.Proofs.Ytacchkmdheglaaa
