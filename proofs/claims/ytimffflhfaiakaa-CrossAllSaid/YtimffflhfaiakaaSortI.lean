/- slices.Clone, Sort and Compact on rows of int64s. -/
import Derived.Test.YtimffflhfaiakaaChgI
import Derived.Test.YtimffflhfaiakaaShelf
import Derived.Sort.OwnSortedInts
import Derived.Deep.AppendLies
namespace Go.Proofs.Ytimffflhfaiakaa
open Go.RowKit Go.Sort Go.Proofs
set_option linter.unusedVariables false

def sortI (l : List Int) : List Int := l.mergeSort fun x y => decide (x ≤ y)
theorem sortI_perm (l : List Int) : (sortI l).Perm l := List.mergeSort_perm _ _
theorem sortI_len (l : List Int) : (sortI l).length = l.length := (sortI_perm l).length_eq
theorem sortI_sorted (l : List Int) : (sortI l).Pairwise (· ≤ ·) := by
  have := List.pairwise_mergeSort (le := fun x y : Int => decide (x ≤ y)) (fun a b c h1 h2 => by simp at *; omega) (fun a b => by simp; omega) l
  exact List.Pairwise.imp (fun h => by simpa using h) this

theorem sSortI_any (g cap base : Nat) (l : List Int) (w : World) (ho : ownI w base 2 (.slice (some ⟨g, 0, none⟩) l.length cap) l) (hl : l.length < 4611686018427387904) :
    Calls Try.prog 53 #[.slice (some ⟨g, 0, none⟩) l.length cap] w fun r w' => r = .returned (.tuple #[]) ∧ ownI w' base 2 (.slice (some ⟨g, 0, none⟩) (sortI l).length cap) (sortI l) ∧ Chg (fun k => k = g) w w' := by
  obtain ⟨h1, ⟨h2, _⟩ | ⟨g', cap', cur, e, hb, hg, hn, hc, hs, ht⟩⟩ := ho
  · cases h2
  injection e with e1 e2 e3
  injection e1 with e1; injection e1 with e1
  subst e1 e3
  rw [Nat.mul_one] at ht
  refine (AnyG.slices_Sort_int Try.laysSort g 0 cap l w (holds_of_blockI hg ht) (at_lt hg) hl).mono ?_
  rintro r w' ⟨rfl, n, os, rfl⟩
  refine ⟨rfl, ?_, ?_⟩
  · have := ownsRow_sortedI (n := n) (os := os) (ts := sortI l) (sortI_len l) hb hg hn hc hs
    rw [ownI, sortI_len]
    exact this
  · have := grownBy_sortedI (w := w) (g := g) (n := n) (os := os) (sortI l).toArray
    exact ⟨this.os, this.tape, this.output, this.size, fun k hk hF => this.block k hk (fun e => hF (by injection e))⟩

theorem infoI64 : (Try.prog.info? 2).map (fun i => (i.zero, i.size, i.bytes)) = some (some (.int .i64 0), 1, 8) := by kernel_rfl
theorem sCloneI_any (b off c : Nat) (l : List Int) (w : World) (hl : l.length ≤ 1000000) (hc : ∀ j (h : j < l.length), w.cell? ⟨b, off + j, none⟩ = some (.int .i64 l[j])) :
    Calls Try.prog 52 #[.slice (some ⟨b, off, none⟩) l.length c] w fun r w' => ∃ v', r = .returned v' ∧ ownI w' w.heap.size 2 v' l ∧ Below w.heap.size w w' := by
  obtain ⟨i0, hi, hz0, hz1, hz2⟩ := info_parts infoI64
  refine (AnyE.slices_Clone Try.laysClone i0 (.int .i64 0) 1 8 hi hz0 hz1 hz2 rfl (by omega) Try.sizeOf2 b off l.length c (intsV l) w (by simp [intsV]) (by unfold maxLen; omega) (by omega) ?_ ?_).mono ?_
  · intro j u hu
    have hj : j < l.length := by
      have := (List.getElem?_eq_some_iff.1 hu).1
      simpa [intsV] using this
    rw [hc j hj]
    simpa [intsV, hj] using hu
  · intro u hu
    obtain ⟨x, _, rfl⟩ := List.mem_map.1 hu
    rfl
  · rintro r w' ⟨v', rfl, h1, _, h3⟩
    exact ⟨v', rfl, h1, h3⟩
end Go.Proofs.Ytimffflhfaiakaa
