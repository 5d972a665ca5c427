/- Slices of structs, in general: what they read as, and how they are opened. -/
import Derived.Test.YtbmldiklgkojnaaFrame
import Derived.Deep.Slices
import Derived.Deep.Fields
namespace Go.Proofs.Ytbmldiklgkojnaa
open Go.ChangeShapes Go.WideShapes Go.ChangeAt Go.RowKit
set_option linter.unusedVariables false

/-- a slice of structs of 'size' cells; C: what one reads as -/
def rdS {α : Type} (size : Nat) (C : World → Nat → Nat → α → Prop) (w : World) (v : Value) (l : List α) : Prop :=
  ∃ a cap, v = .slice a l.length cap ∧ l.length ≤ cap ∧ cap ≤ maxLen ∧ (0 < l.length → ∃ b off, a = some ⟨b, off, none⟩ ∧ ∀ j (h : j < l.length), C w b (off + j * size) l[j])

theorem rdS.grow {α : Type} {size : Nat} {C : World → Nat → Nat → α → Prop} (hC : ∀ w w' b o x, C w b o x → Below w.heap.size w w' → C w' b o x)
    {w w' : World} {v : Value} {l : List α} (h : rdS size C w v l) (hb : Below w.heap.size w w') : rdS size C w' v l := by
  obtain ⟨a, cap, rfl, hm, hM, ha⟩ := h
  refine ⟨a, cap, rfl, hm, hM, fun h0 => ?_⟩
  obtain ⟨b, off, rfl, hc⟩ := ha h0
  exact ⟨b, off, rfl, fun j hj => hC _ _ _ _ _ (hc j hj) hb⟩
theorem rdS.len {α : Type} {size : Nat} {C : World → Nat → Nat → α → Prop} {w : World} {v : Value} {l : List α} (h : rdS size C w v l) : ∃ a cap, v = .slice a l.length cap := by
  obtain ⟨a, cap, rfl, _⟩ := h; exact ⟨a, cap, rfl⟩

section
variable {H : Type} {enc : TypeId × Value → H} {P : Program} {W : World} {base : Nat} {spare : Nat → Bool} {held : Bool}

theorem fint_at {n : Nat} {fs : Array Field} {xs : List (DataW H × List MemPlace)} {cs' : List Value}
    (hxl : xs.length = fs.size) (hfl : ∀ (i : Nat) (f : Field), fs[i]? = some f → DataW.trod enc P W base spare held n f.type ((cs'.drop f.offset).take (P.cellsOf f.type)) = xs[i]?)
    {i : Nat} {f : Field} (hi : fs[i]? = some f) (ho : f.offset = i) (h1 : P.cellsOf f.type = 1) (hu : P.underlying f.type = some (.int .i64)) (hlen : i < cs'.length) : ∃ z, cs'[i]? = some (.int .i64 z) ∧ I64 z := by
  have g := hfl i f hi
  have hlt : i < fs.size := (Array.getElem?_eq_some_iff.1 hi).1
  rw [ho, h1, Go.Deep.take1_drop _ _ undef hlen, List.getElem?_eq_getElem (by omega)] at g
  obtain ⟨z, hz, _, hw⟩ := DataW.trod_int hu g
  refine ⟨z, ?_, bounds_i64 hw⟩
  rw [List.getElem?_eq_getElem hlen]
  rw [List.getD_eq_getElem?_getD, List.getElem?_eq_getElem hlen] at hz
  simpa using hz
theorem fany_at {n : Nat} {fs : Array Field} {xs : List (DataW H × List MemPlace)} {cs' : List Value}
    (hxl : xs.length = fs.size) (hfl : ∀ (i : Nat) (f : Field), fs[i]? = some f → DataW.trod enc P W base spare held n f.type ((cs'.drop f.offset).take (P.cellsOf f.type)) = xs[i]?)
    {i : Nat} {f : Field} (hi : fs[i]? = some f) (ho : f.offset = i) (h1 : P.cellsOf f.type = 1) (hlen : i < cs'.length) : ∃ v x, cs'[i]? = some v ∧ DataW.trod enc P W base spare held n f.type [v] = some x := by
  have g := hfl i f hi
  have hlt : i < fs.size := (Array.getElem?_eq_some_iff.1 hi).1
  rw [ho, h1, Go.Deep.take1_drop _ _ undef hlen, List.getElem?_eq_getElem (by omega)] at g
  refine ⟨_, _, ?_, g⟩
  rw [List.getD_eq_getElem?_getD, List.getElem?_eq_getElem hlen]; rfl

theorem rdS_openG {α : Type} [Inhabited α] {C : World → Nat → Nat → α → Prop} {size : Nat} (h0 : 0 < size) {t e : TypeId} {fs : Array Field}
    (ht : P.underlying t = some (.slice e)) (he : P.underlying e = some (.struct fs)) (hc : P.cellsOf e = size)
    (each : ∀ (n b off : Nat) (cs' : List Value) (xs : List (DataW H × List MemPlace)), cs'.length = size → (∀ j u, cs'[j]? = some u → W.cell? ⟨b, off + j, none⟩ = some u) → xs.length = fs.size →
      (∀ (i : Nat) (f : Field), fs[i]? = some f → DataW.trod enc P W base spare held n f.type ((cs'.drop f.offset).take (P.cellsOf f.type)) = xs[i]?) → ∃ y : α, C W b off y)
    {fuel : Nat} {cs : List Value} {x : DataW H × List MemPlace} (h : DataW.trod enc P W base spare held fuel t cs = some x) :
    ∃ v l, cs = [v] ∧ rdS size C W v l := by
  rcases Go.Deep.open_slice ht h with ⟨rfl, _⟩ | ⟨a, len, cap, m, n, D, Pl, rfl, hb, hl, hm, hmm, _, hx⟩
  · exact ⟨_, [], rfl, none, 0, rfl, Nat.le_refl _, Nat.zero_le _, fun h => by simp at h⟩
  have hlm : len ≤ m := by rw [hmm]; split <;> omega
  by_cases hl0 : len = 0
  · subst hl0
    exact ⟨_, [], rfl, some a, cap, rfl, hl, hm, fun h => by simp at h⟩
  obtain ⟨b, off, spot⟩ := a
  have hspot : spot = none := by
    obtain ⟨cs', h1, h2⟩ := hx 0 (by omega)
    rw [hc] at h1
    obtain ⟨_, hlen, hcell⟩ := World.cells?_some h1
    have := hcell 0 h0
    have hz : (⟨b, off, spot⟩ : Addr).add (0 * size) = ⟨b, off, spot⟩ := by simp [Addr.add]
    rw [hz] at this
    have hz2 : (⟨b, off, spot⟩ : Addr).add 0 = ⟨b, off, spot⟩ := by simp [Addr.add]
    rw [hz2, List.getElem?_eq_getElem (by omega)] at this
    simpa using World.cell?_spot this
  subst hspot
  have each2 : ∀ i, i < len → ∃ y : α, C W b (off + i * size) y := by
    intro i hi
    obtain ⟨cs', h1, h2⟩ := hx i (by omega)
    rw [hc] at h1
    obtain ⟨_, hlen, hcell⟩ := World.cells?_some h1
    obtain ⟨xs, k, _, _, _, hxl, hfl⟩ := DataW.trod_struct he h2
    refine each k b (off + i * size) cs' xs hlen (fun j u hu => ?_) hxl hfl
    have hj : j < size := by rw [← hlen]; exact (List.getElem?_eq_some_iff.1 hu).1
    have := hcell j hj
    rw [Go.Deep.add_add, add_plain, hu] at this
    rw [← this, Nat.add_assoc]
  obtain ⟨q, hq⟩ := Go.Deep.choose_lt each2
  refine ⟨_, (List.range len).map q, rfl, some ⟨b, off, none⟩, cap, by simp, by simpa using hl, hm, fun _ => ⟨b, off, rfl, fun j hj => ?_⟩⟩
  simp at hj
  simp only [List.getElem_map, List.getElem_range]
  exact hq j hj
end

/-- a field of one cell at its own place, of a kind -/
def fieldOf1 (P : Program) (fs : Array Field) (i : Nat) (ty : TypeDesc → Bool) : Bool := match fs[i]? with
  | some f => f.offset == i && P.cellsOf f.type == 1 && ((P.underlying f.type).map ty).getD false
  | none => false
def isI64d : TypeDesc → Bool
  | .int .i64 => true
  | _ => false
theorem isI64d_spec {t : TypeDesc} (h : isI64d t = true) : t = .int .i64 := by
  unfold isI64d at h; split at h
  · rfl
  · cases h
def isSl (e : TypeId) : TypeDesc → Bool
  | .slice x => x == e
  | _ => false
theorem isSl_spec {e : TypeId} {t : TypeDesc} (h : isSl e t = true) : t = .slice e := by
  unfold isSl at h; split at h
  · simp at h; rw [h]
  · cases h
theorem fieldOf1_spec {P : Program} {fs : Array Field} {i : Nat} {ty : TypeDesc → Bool} (h : fieldOf1 P fs i ty = true) : ∃ f, fs[i]? = some f ∧ f.offset = i ∧ P.cellsOf f.type = 1 ∧ ∃ u, P.underlying f.type = some u ∧ ty u = true := by
  unfold fieldOf1 at h
  cases hf : fs[i]? with
  | none => rw [hf] at h; cases h
  | some f =>
    rw [hf] at h
    simp only [Bool.and_eq_true, beq_iff_eq] at h
    obtain ⟨⟨h1, h2⟩, h3⟩ := h
    refine ⟨f, rfl, h1, h2, ?_⟩
    cases hu : P.underlying f.type with
    | none => rw [hu] at h3; cases h3
    | some u => rw [hu] at h3; exact ⟨u, rfl, h3⟩
/-- the fields of a struct type -/
def fieldsOf (P : Program) (t : TypeId) : Array Field := match P.underlying t with | some (.struct fs) => fs | _ => #[]
end Go.Proofs.Ytbmldiklgkojnaa
