/- Blocks of cells: what a store makes of them. No program in sight. -/
import Derived.Test.YtbmldiklgkojnaaBase
import Derived.Laws.NewBlocks
namespace Go.Proofs.Ytbmldiklgkojnaa
open Go.RowKit

theorem set_at {w : World} {g o : Nat} {u : Value} {cur : Array Value} {E : TypeId} {fr : Nat × Nat} (h : w.heap[g]? = some (.cells cur E fr)) :
    (w.setCell ⟨g, o, none⟩ u).heap[g]? = some (.cells (cur.setIfInBounds o u) E fr) := by
  have hlt : g < w.heap.size := (Array.getElem?_eq_some_iff.1 h).1
  have h' : w.heap[g] = .cells cur E fr := by simpa [Array.getElem?_eq_getElem hlt] using h
  show (w.heap.modify g _)[g]? = _
  rw [Array.getElem?_eq_getElem (by simpa using hlt), Array.getElem_modify_self, h']
  rfl
theorem set_far {w : World} {g o k : Nat} {u : Value} {x : Option Obj} (h : w.heap[k]? = x) (hk : k ≠ g) : (w.setCell ⟨g, o, none⟩ u).heap[k]? = x := by
  rw [Below.heap_setCell _ _ _ _ hk]; exact h
theorem cell_at {w : World} {g : Nat} {cur : Array Value} {E : TypeId} {fr : Nat × Nat} (h : w.heap[g]? = some (.cells cur E fr)) (o : Nat) : w.cell? ⟨g, o, none⟩ = cur[o]? := by
  simp [World.cell?, h]
theorem free_at {w : World} {g : Nat} {cur : Array Value} {E : TypeId} (h : w.heap[g]? = some (.cells cur E (0, 0))) (o : Nat) : w.frozen? ⟨g, o, none⟩ = false := by
  simp [World.frozen?, h]
theorem at_lt {w : World} {g : Nat} {o : Obj} (h : w.heap[g]? = some o) : g < w.heap.size := (Array.getElem?_eq_some_iff.1 h).1
theorem at_new (w : World) (o : Obj) : (w.alloc o).heap[w.heap.size]? = some o := heap_alloc_new w o
theorem at_old {w : World} {k : Nat} {x : Obj} (o : Obj) (h : w.heap[k]? = some x) : (w.alloc o).heap[k]? = some x := by
  rw [Below.heap_alloc _ _ _ (at_lt h)]; exact h
theorem at_below {w w' : World} {k : Nat} {x : Obj} (h : w.heap[k]? = some x) (hb : Below w.heap.size w w') : w'.heap[k]? = some x := by
  rw [hb.block k (at_lt h)]; exact h
end Go.Proofs.Ytbmldiklgkojnaa
