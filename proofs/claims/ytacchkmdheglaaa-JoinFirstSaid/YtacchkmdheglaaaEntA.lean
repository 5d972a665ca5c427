/- Contracts of the functions on one entry or two. -/
import Derived.Test.YtacchkmdheglaaaRows
import Derived.Test.YtacchkmdheglaaaEntP
import Derived.WalkKit
import Derived.WalkSpells
import Derived.WalkLawsBesides
import Derived.Handy
import Derived.IntWalk
namespace Go.Proofs.Ytacchkmdheglaaa
open Go.RowKit
set_option linter.unusedVariables false

theorem bcell {W w1 : World} (hb : Below W.heap.size W w1) : (∀ b o, b < W.heap.size → w1.cell? ⟨b, o, none⟩ = W.cell? ⟨b, o, none⟩) ∧ (∀ b o, b < W.heap.size → w1.frozen? ⟨b, o, none⟩ = W.frozen? ⟨b, o, none⟩) :=
  ⟨fun b o h => hb.cell (p := ⟨b, o, none⟩) h, fun b o h => hb.frozen (p := ⟨b, o, none⟩) h⟩

set_option maxRecDepth 100000 in
set_option maxHeartbeats 400000 in
theorem same_any (a b : Ent) (w : World) :
    Calls Try.prog 67 #[a.val, b.val] w fun e w' => e = .returned (.bool (sameE a b)) ∧ Below w.heap.size w w' := by
  obtain ⟨a1, a2, a3, a4, a5, a6, a7⟩ := a
  obtain ⟨b1, b2, b3, b4, b5, b6, b7⟩ := b
  simp only [Ent.val, sameE]
  go_enter Try.func67, Try.ntmps67
  go_wp2
  all_goals go_ret
  all_goals refine ⟨ret_bool ?_, ((Below.refl _ _).alloc (Nat.le_refl _) _).alloc (by simp) _⟩
  all_goals simp [*]

set_option maxRecDepth 100000 in
set_option maxHeartbeats 400000 in
theorem rsame_any (a b : Ent) (w : World) :
    Calls Try.prog 56 #[a.val, b.val] w fun e w' => e = .returned (.bool (sameE a b)) ∧ Below w.heap.size w w' := by
  obtain ⟨a1, a2, a3, a4, a5, a6, a7⟩ := a
  obtain ⟨b1, b2, b3, b4, b5, b6, b7⟩ := b
  simp only [Ent.val, sameE]
  go_enter Try.func56, Try.ntmps56
  go_wp2
  all_goals go_ret
  all_goals refine ⟨ret_bool ?_, ((Below.refl _ _).alloc (Nat.le_refl _) _).alloc (by simp) _⟩
  all_goals simp [*]

set_option maxRecDepth 100000 in
set_option maxHeartbeats 1000000 in
theorem req_any (a b : Ent) (w : World) :
    Calls Try.prog 48 #[a.val, b.val] w fun e w' => e = .returned (.bool (eqE a b)) ∧ Below w.heap.size w w' := by
  obtain ⟨a1, a2, a3, a4, a5, a6, a7⟩ := a
  obtain ⟨b1, b2, b3, b4, b5, b6, b7⟩ := b
  simp only [Ent.val, eqE]
  have hB : ∀ o1 o2 w1, Below ((w.alloc o1).alloc o2).heap.size ((w.alloc o1).alloc o2) w1 → Below w.heap.size w w1 := fun o1 o2 w1 h =>
    (((Below.refl _ _).alloc (Nat.le_refl _) _).alloc (by simp) _).trans (h.mono (by simp; omega))
  have hB := Lib.hid hB
  cases hs : sameE ⟨a1, a2, a3, a4, a5, a6, a7⟩ ⟨b1, b2, b3, b4, b5, b6, b7⟩
  · have hs := Lib.hid hs
    go_enter Try.func48, Try.ntmps48
    go_wp2_with fail
    refine (rsame_any ⟨a1, a2, a3, a4, a5, a6, a7⟩ ⟨b1, b2, b3, b4, b5, b6, b7⟩ _).mono ?_
    rintro e w1 ⟨rfl, hb⟩
    rw [hs.out]
    go_wp2
    go_ret
    exact ⟨ret_bool (by simp), hB.out _ _ _ hb⟩
  · have hs := Lib.hid hs
    go_enter Try.func48, Try.ntmps48
    go_wp2_with fail
    refine (rsame_any ⟨a1, a2, a3, a4, a5, a6, a7⟩ ⟨b1, b2, b3, b4, b5, b6, b7⟩ _).mono ?_
    rintro e w1 ⟨rfl, hb⟩
    rw [hs.out]
    obtain ⟨hc, hf⟩ := bcell hb
    go_wp2
    all_goals go_ret
    all_goals refine ⟨ret_bool ?_, hB.out _ _ _ hb⟩
    all_goals simp [*]
end Go.Proofs.Ytacchkmdheglaaa
