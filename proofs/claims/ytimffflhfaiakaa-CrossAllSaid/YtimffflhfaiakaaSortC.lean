/- slices.Compact on rows of int64s; what it makes of a sorted row (plain). -/
import Derived.Test.YtimffflhfaiakaaSortI
import Derived.Lib.RowBridge
namespace Go.Proofs.Ytimffflhfaiakaa
open Go.RowKit Go.Sort Go.Proofs
set_option linter.unusedVariables false

theorem sCompactI_any (g cap base : Nat) (l : List Int) (w : World) (ho : ownI w base 2 (.slice (some ⟨g, 0, none⟩) l.length cap) l) (hl : l.length < 4611686018427387904) :
    Calls Try.prog 54 #[.slice (some ⟨g, 0, none⟩) l.length cap] w fun r w' => r = .returned (.slice (some ⟨g, 0, none⟩) (Lib.compact l).length cap) ∧
      ownI w' base 2 (.slice (some ⟨g, 0, none⟩) (Lib.compact l).length cap) (Lib.compact l) ∧ Chg (fun k => k = g) w w' := by
  obtain ⟨h1, ⟨h2, _⟩ | ⟨g', cap', cur, e, hb, hg, hn, hc, hs, ht⟩⟩ := ho
  · cases h2
  injection e with e1 e2 e3
  injection e1 with e1; injection e1 with e1
  subst e1 e3
  rw [Nat.mul_one] at ht
  refine (AnyG.slices_Compact_int Try.laysCompact g 0 cap l w (holds_of_blockI hg ht) (by omega) hn).mono ?_
  rintro r w' ⟨rfl, n, rfl⟩
  have hle := Lib.compact_length_le l
  obtain ⟨ts, hts⟩ : ∃ ts, Lib.compact l ++ List.replicate (l.length - (Lib.compact l).length) 0 = ts := ⟨_, rfl⟩
  have htl : ts.length = l.length := by rw [← hts]; simp; omega
  have ho2 := ownsRow_sortedI (n := n) (os := #[]) (ts := ts) htl hb hg hn hc hs
  have hgb := grownBy_sortedI (w := w) (g := g) (n := n) (os := #[]) ts.toArray
  rw [grow_empty] at ho2 hgb
  rw [hts]
  refine ⟨rfl, ?_, ⟨hgb.os, hgb.tape, hgb.output, hgb.size, fun k hk hF => hgb.block k hk (fun e => hF (by injection e))⟩⟩
  obtain ⟨k1, ⟨k2, _⟩ | ⟨g2, cap2, cur2, k3, k4, k5, k6, k7, k8, k9⟩⟩ := ho2
  · cases k2
  injection k3 with m1 m2 m3
  injection m1 with m1; injection m1 with m1
  subst m1 m3
  refine ⟨by simp [intsV], .inr ⟨g, cap, cur2, rfl, k4, k5, by omega, k7, k8, ?_⟩⟩
  rw [Nat.mul_one] at k9 ⊢
  have h3 : cur2.toList.take (Lib.compact l).length = (cur2.toList.take l.length).take (Lib.compact l).length := by
    rw [List.take_take]; congr 1; omega
  rw [h3, k9, ← hts]
  unfold intsV
  rw [List.map_append, List.take_append_of_le_length (by simp), List.take_of_length_le (by simp)]
end Go.Proofs.Ytimffflhfaiakaa
