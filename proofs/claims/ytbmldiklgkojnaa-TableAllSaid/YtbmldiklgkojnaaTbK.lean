/- Opening: slices of bytes and of strings. -/
import Derived.Test.YtbmldiklgkojnaaTbG
import Derived.SliceStrings
namespace Go.Proofs.Ytbmldiklgkojnaa
open Go.ChangeShapes Go.WideShapes Go.ChangeAt Go.RowKit
set_option linter.unusedVariables false

/-- a slice of strings -/
def rdT (w : World) (v : Value) (l : List ByteArray) : Prop :=
  ∃ a cap, v = .slice a l.length cap ∧ l.length ≤ cap ∧ cap ≤ maxLen ∧ (0 < l.length → ∃ b off, a = some ⟨b, off, none⟩ ∧ ∀ j (h : j < l.length), w.cell? ⟨b, off + j, none⟩ = some (.string l[j]))
theorem rdT.grow {w w' : World} {v : Value} {l : List ByteArray} (h : rdT w v l) (hb : Below w.heap.size w w') : rdT w' v l := by
  obtain ⟨a, cap, rfl, hm, hM, ha⟩ := h
  refine ⟨a, cap, rfl, hm, hM, fun h0 => ?_⟩
  obtain ⟨b, off, rfl, hc⟩ := ha h0
  exact ⟨b, off, rfl, fun j hj => cell_bel (hc j hj) hb⟩
theorem rdB.grow {w w' : World} {v : Value} {l : List UInt8} (h : rdB w v l) (hb : Below w.heap.size w w') : rdB w' v l := by
  obtain ⟨a, cap, rfl, hm, hM, ha⟩ := h
  refine ⟨a, cap, rfl, hm, hM, fun h0 => ?_⟩
  obtain ⟨b, off, rfl, hc⟩ := ha h0
  exact ⟨b, off, rfl, fun j hj => cell_bel (hc j hj) hb⟩
theorem addr_plain {w : World} {x : Addr} {u : Value} (c0 : w.cell? (x.add 0) = some u) : ∃ b off, x = ⟨b, off, none⟩ := by
  obtain ⟨b, off, spot⟩ := x
  cases spot with
  | some s =>
    exfalso
    simp [Addr.add, World.cell?] at c0
    split at c0 <;> simp at c0
  | none => exact ⟨b, off, rfl⟩
theorem addr_add (b off j : Nat) : (⟨b, off, none⟩ : Addr).add j = ⟨b, off + j, none⟩ := by
  unfold Addr.add; split
  · next h => subst h; rfl
  · rfl
theorem byteOf {n : Int} (h : 0 ≤ n ∧ n ≤ 255) : ((UInt8.ofNat n.toNat).toNat : Int) = n := by
  rw [UInt8.toNat_ofNat']
  omega
theorem slbyte_open {H : Type} {enc : TypeId × Value → H} {W : World} {base : Nat} {v : Value} {d : DataW H} {ps : List MemPlace}
    (hok : Value.okWide Try.prog W .any base 45 v) (h : DataW.Trod enc Try.prog W 0 (fun _ => true) true 45 v d ps) : ∃ l, rdB W v l ∧ True := by
  obtain ⟨a0, len0, cap0, rfl⟩ := okWide_slice Try.underlying45 hok
  obtain ⟨fuel, hf⟩ := h
  rcases open_ints Try.underlying45 Try.underlying5 (by kernel_rfl) hf with ⟨hcs, _⟩ | ⟨x, l, c, zs, hcs, _, hl, hm, hz, _, hcell, hwz⟩
  · simp [Value.cells] at hcs
    obtain ⟨rfl, rfl, rfl⟩ := hcs
    exact ⟨[], ⟨none, 0, rfl, Nat.le_refl _, Nat.zero_le _, fun h => by simp at h⟩, trivial⟩
  · simp [Value.cells] at hcs
    obtain ⟨rfl, rfl, rfl⟩ := hcs
    simp at hz
    have hlen : ((zs.take len0).map fun n => UInt8.ofNat n.toNat).length = len0 := by rw [List.length_map, List.length_take, hz]; omega
    refine ⟨(zs.take len0).map fun n => UInt8.ofNat n.toNat, ⟨some x, cap0, by rw [hlen], by rw [hlen]; exact hl, hm, fun h0 => ?_⟩, trivial⟩
    rw [hlen] at h0
    obtain ⟨b, off, rfl⟩ := addr_plain (hcell 0 (by omega))
    refine ⟨b, off, rfl, fun j hj => ?_⟩
    have hj' : j < zs.length := by omega
    have cj := hcell j hj'
    rw [addr_add] at cj
    rw [cj, List.getElem_map, List.getElem_take, byteOf (bounds_u8 (hwz _ (List.getElem_mem hj')))]
    simp [List.getD_eq_getElem?_getD, hj']
theorem slstring_open {H : Type} {enc : TypeId × Value → H} {W : World} {base : Nat} {v : Value} {d : DataW H} {ps : List MemPlace}
    (hok : Value.okWide Try.prog W .any base 22 v) (h : DataW.Trod enc Try.prog W 0 (fun _ => true) true 22 v d ps) : ∃ l, rdT W v l ∧ ∀ s ∈ l, s.size ≤ 9223372036854775807 := by
  obtain ⟨a0, len0, cap0, rfl⟩ := okWide_slice Try.underlying22 hok
  obtain ⟨fuel, hf⟩ := h
  rcases open_strings Try.underlying22 Try.underlying9 (by kernel_rfl) hf with ⟨hcs, _⟩ | ⟨x, l, c, zs, hcs, _, hl, hm, hz, _, hcell, hwz⟩
  · simp [Value.cells] at hcs
    obtain ⟨rfl, rfl, rfl⟩ := hcs
    exact ⟨[], ⟨none, 0, rfl, Nat.le_refl _, Nat.zero_le _, fun h => by simp at h⟩, by simp⟩
  · simp [Value.cells] at hcs
    obtain ⟨rfl, rfl, rfl⟩ := hcs
    simp at hz
    have hlen : (zs.take len0).length = len0 := by rw [List.length_take, hz]; omega
    refine ⟨zs.take len0, ⟨some x, cap0, by rw [hlen], by rw [hlen]; exact hl, hm, fun h0 => ?_⟩, fun s hs => by have := hwz s (List.mem_of_mem_take hs); unfold maxLen at this; omega⟩
    rw [hlen] at h0
    obtain ⟨b, off, rfl⟩ := addr_plain (hcell 0 (by omega))
    refine ⟨b, off, rfl, fun j hj => ?_⟩
    have hj' : j < zs.length := by omega
    have cj := hcell j hj'
    rw [addr_add] at cj
    rw [cj, List.getElem_take]
    simp [List.getD_eq_getElem?_getD, hj']
end Go.Proofs.Ytbmldiklgkojnaa
