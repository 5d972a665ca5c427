/- Contracts: who voted, and whether they are enough. -/
import Derived.Test.YtacchkmdheglaaaVtP
import Derived.Test.YtacchkmdheglaaaPlanB
import Derived.Test.YtacchkmdheglaaaTeamR
import Derived.Deep.DeepCutAuto
import Derived.Deep.RegionHeld3
import Derived.StillTailTactics
namespace Go.Proofs.Ytacchkmdheglaaa
open Go.RowKit
set_option linter.unusedVariables false

set_option maxRecDepth 100000 in
set_option maxHeartbeats 400000 in
theorem vView_any (b : Nat) (view n : Int) (l : List VtS) (w : World) (hr : rdVs w b view n l) :
    Calls Try.prog 30 #[.pointer (some ⟨b, 0, none⟩)] w fun r w' => r = .returned (.int .i64 view) ∧ w = w' := by
  obtain ⟨h1, _⟩ := hr
  go_enter Try.func30, Try.ntmps30
  go_wp2
  go_ret
  exact ⟨rfl, rfl⟩

set_option maxRecDepth 100000 in
set_option maxHeartbeats 1000000 in
theorem vTeam_any (b : Nat) (view n : Int) (l : List VtS) (w : World) (hr : rdVs w b view n l) :
    Calls Try.prog 26 #[.pointer (some ⟨b, 0, none⟩)] w fun r w' => r = .returned (.int .i64 (teamV l)) ∧ Below w.heap.size w w' := by
  obtain ⟨_, _, v, hv, hs⟩ := hr
  obtain ⟨a, cap, rfl, hm, hM, ha⟩ := hs
  unfold maxLen at hM
  replace ha := Lib.hid ha
  go_enter Try.func26, Try.ntmps26
  go_wp2
  go_loopw [3, 13] (fun t i wr => ∃ k : Nat, k ≤ l.length ∧ i = .int .i64 k ∧ t = .int .i64 (teamV (l.take k)) ∧ Below w.heap.size w wr) (fun _ i _ => l.length - (intOf i).toNat)
  case atStart => exact ⟨0, Nat.zero_le _, rfl, rfl, Below.refl _ _⟩
  case round =>
    obtain ⟨k, hk, rfl, rfl, hbel⟩ := hrel
    have hT := teamV_lt (l.take k)
    by_cases hlt : k < l.length
    · obtain ⟨g, off, rfl, hc⟩ := ha.out (by omega)
      have hck := cVt.grow _ _ _ _ _ (hc k hlt) hbel
      have hst := Lib.hid (teamV_take l k hlt)
      clear hc
      generalize l[k] = x at hck hst
      obtain ⟨⟨frm, last, lg, com⟩, s⟩ := x
      obtain ⟨c0, c1, c2, c3, c4⟩ := hck
      dsimp only at c0 c1 c2 c3 c4 hst
      obtain ⟨sa, sc, rfl⟩ := c4.len
      clear c4
      generalize teamV (l.take k) = T at hT hst ⊢
      have hbel2 := fun o => hbel.alloc hbel.size o
      replace hbel2 := Lib.hid hbel2
      clear hbel
      go_wp2_with (go_at_call 44; refine (with_nat _ _ _ (by assumption)).mono ?_; rintro e w' ⟨rfl, rfl⟩)
      go_roundw
      case rel => exact ⟨k + 1, by omega, by go_num, by rw [hst.out], hbel2.out _⟩
      case measure => simp [intOf]; omega
    · obtain rfl : k = l.length := by omega
      rw [List.take_length]
      go_wp2
      go_ret
      exact ⟨rfl, hbel⟩

set_option maxRecDepth 100000 in
set_option maxHeartbeats 1000000 in
theorem vEnough_any (b : Nat) (view n : Int) (l : List VtS) (w : World) (hr : rdVs w b view n l) :
    Calls Try.prog 28 #[.pointer (some ⟨b, 0, none⟩)] w fun r w' => r = .returned (.bool (mostT (teamV l) n)) ∧ Below w.heap.size w w' := by
  have hrr := Lib.hid hr
  obtain ⟨_, h1, _⟩ := hr
  have h1u := upTo_cell h1
  have HT : Hid (∀ x, Calls Try.prog 26 #[.pointer (some ⟨b, 0, none⟩)] (upTo w x) fun r w' => r = .returned (.int .i64 (teamV l)) ∧ ∃ y, w' = upTo w y) := Lib.hid fun x => call_up (vTeam_any b view n l _ (hrr.out.grow (upTo_below w x)))
  have HM : Hid (∀ x, Calls Try.prog 45 #[.int .i64 (teamV l), .int .i64 n] (upTo w x) fun r w' => r = .returned (.bool (mostT (teamV l) n)) ∧ ∃ y, w' = upTo w y) := Lib.hid fun x => call_up_eq (most_any _ _ _)
  clear h1
  go_enter Try.func28, Try.ntmps28
  go_upto_region 1 with (fail)
  refine wp_region_up (by kernel_rfl) (by kernel_rfl) ?_
  repeat (go_big_quiet_step ((first | (go_at_call 26; exact HT.out _) | (go_at_call 45; exact HM.out _))))
  refine wpQuiet_nil ?_
  intro w2 hw2
  have hb2 := up_below hw2
  clear hw2
  go_wp2
  go_ret
  exact ⟨rfl, hb2⟩

set_option maxRecDepth 100000 in
set_option maxHeartbeats 1000000 in
theorem vBetter_any (x y : Vt) (s1 s2 : Value) (w : World) (hx : rdE w s1 x.lg) (hy : rdE w s2 y.lg) :
    Calls Try.prog 43 #[x.val s1, y.val s2] w fun r w' => r = .returned (.bool (betterV x y)) ∧ Below w.heap.size w w' := by
  obtain ⟨f1, l1, g1, c1⟩ := x
  obtain ⟨f2, l2, g2, c2⟩ := y
  dsimp only at hx hy
  obtain ⟨a1, cap1, rfl⟩ := hx.len
  obtain ⟨a2, cap2, rfl⟩ := hy.len
  clear hx hy
  simp only [Vt.val, betterV]
  have hB : ∀ o p, Below w.heap.size w ((w.alloc o).alloc p) := fun o p => ((Below.refl _ _).alloc (Nat.le_refl _) _).alloc (by simp) _
  replace hB := Lib.hid hB
  by_cases h1 : l1 = l2
  · subst h1
    by_cases h2 : g1.length = g2.length
    · go_enter Try.func43, Try.ntmps43
      rw [h2]
      go_wp2
      go_ret
      exact ⟨ret_bool (by simp), hB.out _ _⟩
    · have d : (g1.length == g2.length) = false := by simpa using h2
      go_enter Try.func43, Try.ntmps43
      go_wp2
      go_ret
      exact ⟨ret_bool (by simp [h2]), hB.out _ _⟩
  · have d : (l1 == l2) = false := by simpa using h1
    go_enter Try.func43, Try.ntmps43
    go_wp2
    go_ret
    exact ⟨ret_bool (by simp [h1]), hB.out _ _⟩
end Go.Proofs.Ytacchkmdheglaaa
