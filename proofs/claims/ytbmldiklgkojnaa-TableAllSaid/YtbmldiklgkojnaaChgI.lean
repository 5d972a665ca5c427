/- What turns: only blocks of a footprint, and new ones. No program in sight. -/
import Derived.Test.YtbmldiklgkojnaaBox
namespace Go.Proofs.Ytbmldiklgkojnaa
open Go.RowKit
set_option linter.unusedVariables false

/-- only blocks of F, and new ones, have turned -/
structure Chg (F : Nat → Prop) (w w' : World) : Prop where
  os : w'.os = w.os
  tape : w'.tape = w.tape
  output : w'.output = w.output
  size : w.heap.size ≤ w'.heap.size
  block : ∀ k, k < w.heap.size → ¬ F k → w'.heap[k]? = w.heap[k]?
theorem Chg.refl (F : Nat → Prop) (w : World) : Chg F w w := ⟨rfl, rfl, rfl, Nat.le_refl _, fun _ _ _ => rfl⟩
theorem Chg.of_below {F : Nat → Prop} {w w' : World} (h : Below w.heap.size w w') : Chg F w w' := ⟨h.os, h.tape, h.output, h.size, fun k hk _ => h.block k hk⟩
theorem Chg.mono {F G : Nat → Prop} {w w' : World} (h : Chg F w w') (hF : ∀ k, k < w.heap.size → F k → G k) : Chg G w w' :=
  ⟨h.os, h.tape, h.output, h.size, fun k hk hG => h.block k hk fun f => hG (hF k hk f)⟩
theorem Chg.below {F : Nat → Prop} {w w' : World} {B : Nat} (h : Chg F w w') (hB : B ≤ w.heap.size) (hF : ∀ k, F k → B ≤ k) : Below B w w' :=
  ⟨h.os, h.tape, h.output, h.size, fun k hk => h.block k (by omega) fun f => by have := hF k f; omega⟩
/-- on and on within a footprint -/
theorem Chg.more {F G : Nat → Prop} {b w w' : World} (h : Chg F b w) (k : Chg G w w') (hG : ∀ i, G i → F i ∨ b.heap.size ≤ i) : Chg F b w' :=
  ⟨k.os.trans h.os, k.tape.trans h.tape, k.output.trans h.output, Nat.le_trans h.size k.size, fun i hi hF =>
    (k.block i (Nat.lt_of_lt_of_le hi h.size) (fun g => (hG i g).elim hF fun g => Nat.not_le.2 hi g)).trans (h.block i hi hF)⟩
theorem Chg.on {F : Nat → Prop} {b w w' : World} (h : Chg F b w) (k : Below w.heap.size w w') : Chg F b w' := h.more (.of_below (F := fun _ => False) k) fun _ f => f.elim
theorem chg_set {F : Nat → Prop} {w w' : World} {g o : Nat} {u : Value} (h : Chg F w w') (hg : F g) : Chg F w (w'.setCell ⟨g, o, none⟩ u) :=
  ⟨h.os, h.tape, h.output, by rw [World.size_setCell]; exact h.size, fun k hk hF => by rw [Below.heap_setCell _ _ _ _ (fun e => hF (by rw [show k = g from e]; exact hg))]; exact h.block k hk hF⟩
theorem at_chg {F : Nat → Prop} {w w' : World} {k : Nat} {x : Obj} (h : w.heap[k]? = some x) (hc : Chg F w w') (hk : ¬ F k) : w'.heap[k]? = some x := by
  rw [hc.block k (at_lt h) hk]; exact h
theorem cell_lt {w : World} {b o : Nat} {u : Value} (h : w.cell? ⟨b, o, none⟩ = some u) : b < w.heap.size :=
  Nat.lt_of_not_le fun hge => by
    have e : w.heap[b]? = none := by simp; exact hge
    simp [World.cell?, e] at h
theorem rdI.chg {w w' : World} {F : Nat → Prop} {v : Value} {l : List Int} (h : rdI w v l) (hc : Chg F w w') (hn : ∀ k, v.ownBlock = some k → ¬ F k) : rdI w' v l := by
  obtain ⟨a, cap, rfl, hm, hM, ha⟩ := h
  refine ⟨a, cap, rfl, hm, hM, fun h0 => ?_⟩
  obtain ⟨b, off, rfl, hx⟩ := ha h0
  refine ⟨b, off, rfl, fun j hj => ?_⟩
  rw [← hx j hj]
  have hlt : b < w.heap.size := cell_lt (hx j hj)
  exact World.cell?_of_block (w := w) (a := ⟨b, off + j, none⟩) (hc.block b hlt (hn b rfl))
end Go.Proofs.Ytbmldiklgkojnaa
