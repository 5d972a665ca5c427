/- Contracts of the reference's votes. -/
import Derived.Test.YtacchkmdheglaaaVtB
import Derived.Test.YtacchkmdheglaaaRefB
namespace Go.Proofs.Ytacchkmdheglaaa
open Go.RowKit
set_option linter.unusedVariables false

/-- each voter is one of seven, and votes once -/
def goodV (l : List VtS) : Prop := ∀ k (h : k < l.length), 1 ≤ l[k].v.frm ∧ l[k].v.frm ≤ 7 ∧ hasT (teamV (l.take k)) l[k].v.frm = false
theorem goodV_nil : goodV [] := fun k h => by simp at h
theorem goodV_snoc {l : List VtS} {x : VtS} (h : goodV l) (h1 : 1 ≤ x.v.frm) (h7 : x.v.frm ≤ 7) (hn : hasT (teamV l) x.v.frm = false) : goodV (l ++ [x]) := by
  intro k hk
  simp at hk
  by_cases hl : k < l.length
  · rw [List.take_append_of_le_length (by omega), List.getElem_append_left hl]
    exact h k hl
  · obtain rfl : k = l.length := by omega
    simpa using ⟨h1, h7, hn⟩
theorem or_add : ∀ T, T < 128 → ∀ k, k < 7 → T.testBit k = false → T ||| 2 ^ k = T + 2 ^ k := by decide +kernel
theorem withT_add {T : Nat} {id : Int} (hT : T < 128) (h1 : 1 ≤ id) (h7 : id ≤ 7) (hn : hasT T id = false) : withT T id = T + 2 ^ (id.toNat - 1) := by
  rw [hasT, isB_yes h1 h7, Bool.true_and] at hn
  rw [withT, if_pos (isB_yes h1 h7)]
  exact or_add T hT _ (by omega) hn

set_option maxRecDepth 100000 in
set_option maxHeartbeats 1000000 in
theorem r19Team_any (b : Nat) (view n : Int) (l : List VtS) (w : World) (hr : rdVs w b view n l) (hg : goodV l) :
    Calls Try.prog 27 #[.pointer (some ⟨b, 0, none⟩)] w fun r w' => r = .returned (.int .i64 (teamV l)) ∧ w = w' := by
  obtain ⟨_, _, v, hv, hs⟩ := hr
  obtain ⟨a, cap, rfl, hm, hM, ha⟩ := hs
  unfold maxLen at hM
  replace ha := Lib.hid ha
  replace hg := Lib.hid hg
  go_enter Try.func27, Try.ntmps27
  go_wp2
  go_loop [3, 4] (fun t i => ∃ k : Nat, k ≤ l.length ∧ i = .int .i64 k ∧ t = .int .i64 (teamV (l.take k))) (fun _ i => l.length - (intOf i).toNat)
  case atStart => exact ⟨0, Nat.zero_le _, rfl, rfl⟩
  case round =>
    obtain ⟨k, hk, rfl, rfl⟩ := hrel
    have hT := teamV_lt (l.take k)
    by_cases hlt : k < l.length
    · obtain ⟨g, off, rfl, hc⟩ := ha.out (by omega)
      have hck := hc k hlt
      obtain ⟨g1, g7, gn⟩ := hg.out k hlt
      have hst := Lib.hid (show teamV (l.take (k + 1)) = teamV (l.take k) + 2 ^ (l[k].v.frm.toNat - 1) by rw [teamV_take l k hlt]; exact withT_add hT g1 g7 gn)
      have hpl := pow_lt g1 g7
      clear hc gn
      generalize l[k] = x at hck hst g1 g7 hpl
      obtain ⟨⟨frm, last, lg, com⟩, s⟩ := x
      obtain ⟨c0, c1, c2, c3, c4⟩ := hck
      dsimp only at c0 c1 c2 c3 c4 hst g1 g7 hpl
      clear c1 c2 c3 c4
      generalize teamV (l.take k) = T at hT hst ⊢
      go_wp2
      go_loop [5, 6] (fun p j => ∃ m : Nat, 1 ≤ m ∧ (m : Int) ≤ frm ∧ j = .int .i64 m ∧ p = .int .i64 ((2 ^ (m - 1) : Nat) : Int)) (fun _ j => 8 - (intOf j).toNat)
      case atStart => exact ⟨1, Nat.le_refl _, by omega, rfl, rfl⟩
      case round =>
        obtain ⟨m, hm1, hmf, rfl, rfl⟩ := hrel
        have hp : 2 ^ (m - 1) < 128 := by
          have : m - 1 ≤ 6 := by omega
          calc 2 ^ (m - 1) ≤ 2 ^ 6 := Nat.pow_le_pow_right (by decide) this
            _ < 128 := by decide
        by_cases hlm : (m : Int) < frm
        · have hps := Lib.hid (show 2 ^ (m + 1 - 1) = 2 ^ (m - 1) * 2 by rw [← Nat.pow_succ]; congr 1; omega)
          generalize 2 ^ (m - 1) = p at hp hps ⊢
          go_wp2
          go_round
          case rel => exact ⟨m + 1, by omega, by omega, by go_num, by rw [hps.out]; congr 1⟩
          case measure => simp [intOf]; omega
        · have hme : m = frm.toNat := by omega
          have hst2 : Hid (teamV (l.take (k + 1)) = T + 2 ^ (m - 1)) := Lib.hid (by rw [hst.out, hme])
          clear hst hme
          generalize 2 ^ (m - 1) = p at hp hst2 ⊢
          go_wp2
          go_round
          case rel => exact ⟨k + 1, by omega, by go_num, by rw [hst2.out]; congr 1⟩
          case measure => simp [intOf]; omega
    · obtain rfl : k = l.length := by omega
      rw [List.take_length]
      go_wp2
      go_ret
      exact ⟨rfl, rfl⟩
end Go.Proofs.Ytacchkmdheglaaa
