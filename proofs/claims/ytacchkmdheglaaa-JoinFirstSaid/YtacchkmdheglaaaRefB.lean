/- Contracts: the reference's Log and Put. -/
import Derived.Test.YtacchkmdheglaaaPutP
import Derived.StillTailTactics
namespace Go.Proofs.Ytacchkmdheglaaa
open Go.RowKit
set_option linter.unusedVariables false

theorem r12Add_any (v : Value) (l : List Ent) (e : Ent) (B : Nat) (w : World) (hr : ownE w B 67 v l) (hl : l.length ≤ 60) (hB : B ≤ w.heap.size) :
    Calls Try.prog 49 #[v, e.val] w fun r w' => ∃ v', r = .returned (.tuple #[v', .bool (okAdd l e)]) ∧ ownE w' B 67 v' (addE l e) ∧ Below w.heap.size w w' := by
  cases h : okAdd l e
  · refine (r12Add_no v l e w (ownE_base hr (Nat.zero_le _)) h (by omega)).mono ?_
    rintro r w' ⟨rfl, hb⟩
    have e : addE l e = l := by rw [addE, if_neg (by rw [h]; exact Bool.false_ne_true)]
    rw [e]
    exact ⟨v, rfl, ownE_grow hr hb, hb⟩
  · refine (r12Add_yes v l e w (ownE_base hr (Nat.zero_le _)) h).mono ?_
    rintro r w' ⟨v', rfl, ho, hb⟩
    have e : addE l e = l ++ [e] := by rw [addE, if_pos h]
    rw [e]
    exact ⟨v', rfl, ownE_base ho hB, hb⟩

set_option maxRecDepth 100000 in
set_option maxHeartbeats 400000 in
theorem r12Log_any (v : Value) (es : List Ent) (w : World) (hr : rdE w v es) :
    Calls Try.prog 32 #[v] w fun r w' => ∃ v', r = .returned v' ∧ ownE w' w.heap.size 67 v' (logE es) ∧ Below w.heap.size w w' := by
  obtain ⟨a, cap, rfl, hm, hM, ha⟩ := hr
  unfold maxLen at hM
  replace ha := Lib.hid ha
  go_enter Try.func32, Try.ntmps32
  go_wp2
  go_loopw [3, 4] (fun u i wr => ∃ k : Nat, k ≤ es.length ∧ i = .int .i64 k ∧ ownE wr w.heap.size 67 u (logE (es.take k)) ∧ Below w.heap.size w wr) (fun _ i _ => es.length - (intOf i).toNat)
  case atStart => exact ⟨0, Nat.zero_le _, rfl, World.ownsRow_nil _ _ _ _, Below.refl _ _⟩
  case round =>
    obtain ⟨k, hk, rfl, hlg, hbel⟩ := hrel
    replace hlg := Lib.hid hlg
    by_cases hlt : k < es.length
    · obtain ⟨bl, off, rfl, hc⟩ := ha.out (by omega)
      have hck := at_later (hc k hlt) hbel
      have hs := Lib.hid (logE_snoc es k hlt)
      clear hc
      generalize es[k] = x at hck hs
      obtain ⟨c0, c1, c2, c3, c4, c5, c6⟩ := hck
      have hsz := hbel.size
      have hl60 := logE_len (es.take k)
      go_wp2_with fail
      refine (r12Add_any _ _ x w.heap.size _ hlg.out hl60 hsz).mono ?_
      rintro r w1 ⟨v', rfl, ho, hb1⟩
      have hB1 := hbel.trans (hb1.mono hsz)
      rw [← hs.out] at ho
      clear hb1 hbel c0 c1 c2 c3 c4 c5 c6
      go_wp2
      go_roundw
      case rel => exact ⟨k + 1, by omega, by go_num, ho, hB1⟩
      case measure => simp [intOf]; omega
    · obtain rfl : k = es.length := by omega
      rw [List.take_length] at hlg
      go_wp2
      go_ret
      exact ⟨_, rfl, hlg.out, hbel⟩

end Go.Proofs.Ytacchkmdheglaaa
