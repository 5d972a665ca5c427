/- Opening: a slice of entries, read by its cells. -/
import Derived.Test.YtacchkmdheglaaaListC
import Derived.Test.YtacchkmdheglaaaFrame
import Derived.Deep.Slices
import Derived.Deep.Fields
namespace Go.Proofs.Ytacchkmdheglaaa
open Go.ChangeShapes Go.WideShapes Go.ChangeAt Go.RowKit
set_option linter.unusedVariables false

theorem int_at {H : Type} {enc : TypeId × Value → H} {P : Program} {W : World} {base : Nat} {spare : Nat → Bool} {held : Bool} {n : Nat} {fs : Array Field} {xs : List (DataW H × List MemPlace)} {cs' : List Value}
    (hxl : xs.length = fs.size) (hfl : ∀ (i : Nat) (f : Field), fs[i]? = some f → DataW.trod enc P W base spare held n f.type ((cs'.drop f.offset).take (P.cellsOf f.type)) = xs[i]?)
    {i : Nat} {f : Field} (hi : fs[i]? = some f) (ho : f.offset = i) (h1 : P.cellsOf f.type = 1) (hu : P.underlying f.type = some (.int .i64)) (hlen : i < cs'.length) : ∃ z, cs'[i]? = some (.int .i64 z) ∧ I64 z := by
  have g := hfl i f hi
  have hlt : i < fs.size := (Array.getElem?_eq_some_iff.1 hi).1
  rw [ho, h1, Go.Deep.take1_drop _ _ undef hlen, List.getElem?_eq_getElem (by omega)] at g
  obtain ⟨z, hz, _, hw⟩ := DataW.trod_int hu g
  refine ⟨z, ?_, bounds_i64 hw⟩
  rw [List.getElem?_eq_getElem hlen]
  rw [List.getD_eq_getElem?_getD, List.getElem?_eq_getElem hlen] at hz
  simpa using hz
theorem str_at {H : Type} {enc : TypeId × Value → H} {P : Program} {W : World} {base : Nat} {spare : Nat → Bool} {held : Bool} {n : Nat} {fs : Array Field} {xs : List (DataW H × List MemPlace)} {cs' : List Value}
    (hxl : xs.length = fs.size) (hfl : ∀ (i : Nat) (f : Field), fs[i]? = some f → DataW.trod enc P W base spare held n f.type ((cs'.drop f.offset).take (P.cellsOf f.type)) = xs[i]?)
    {i : Nat} {f : Field} (hi : fs[i]? = some f) (ho : f.offset = i) (h1 : P.cellsOf f.type = 1) (hu : P.underlying f.type = some .string) (hlen : i < cs'.length) : ∃ z, cs'[i]? = some (.string z) ∧ z.size ≤ 9223372036854775807 := by
  have g := hfl i f hi
  have hlt : i < fs.size := (Array.getElem?_eq_some_iff.1 hi).1
  rw [ho, h1, Go.Deep.take1_drop _ _ undef hlen, List.getElem?_eq_getElem (by omega)] at g
  obtain ⟨z, hz, _, hw⟩ := DataW.trod_string hu g
  refine ⟨z, ?_, by unfold maxLen at hw; omega⟩
  rw [List.getElem?_eq_getElem hlen]
  rw [List.getD_eq_getElem?_getD, List.getElem?_eq_getElem hlen] at hz
  simpa using hz

/-- an entry's fields -/
structure EntT (P : Program) (e : TypeId) where
  fs : Array Field
  he : P.underlying e = some (.struct fs)
  hc : P.cellsOf e = 7
  hi : ∀ i, i < 6 → ∃ f, fs[i]? = some f ∧ f.offset = i ∧ P.cellsOf f.type = 1 ∧ P.underlying f.type = some (.int .i64)
  hs : ∃ f, fs[6]? = some f ∧ f.offset = 6 ∧ P.cellsOf f.type = 1 ∧ P.underlying f.type = some .string

theorem rdE_openG {H : Type} {enc : TypeId × Value → H} {P : Program} {t e : TypeId} (T : EntT P e) {W : World} {base : Nat} {spare : Nat → Bool} {held : Bool} {fuel : Nat} {cs : List Value} {x : DataW H × List MemPlace}
    (ht : P.underlying t = some (.slice e)) (h : DataW.trod enc P W base spare held fuel t cs = some x) :
    ∃ v l, cs = [v] ∧ rdE W v l ∧ ∀ e ∈ l, e.data.size ≤ 9223372036854775807 := by
  haveI : Inhabited Ent := ⟨entZ⟩
  rcases Go.Deep.open_slice ht h with ⟨rfl, _⟩ | ⟨a, len, cap, m, n, D, Pl, rfl, hb, hl, hm, hmm, _, hx⟩
  · exact ⟨_, [], rfl, ⟨none, 0, rfl, Nat.le_refl _, Nat.zero_le _, fun h => by simp at h⟩, by simp⟩
  have hlm : len ≤ m := by rw [hmm]; split <;> omega
  have each : ∀ i, i < len → ∃ q : Ent, (∀ j, j < 7 → W.cell? (a.add (i * 7 + j)) = q.cells[j]?) ∧ q.data.size ≤ 9223372036854775807 := by
    intro i hi
    obtain ⟨cs', h1, h2⟩ := hx i (by omega)
    rw [T.hc] at h1
    obtain ⟨_, hlen, hcell⟩ := World.cells?_some h1
    obtain ⟨xs, k, _, _, _, hxl, hfl⟩ := DataW.trod_struct T.he h2
    have I : ∀ j, j < 6 → ∃ z, cs'[j]? = some (.int .i64 z) ∧ I64 z := fun j hj => by
      obtain ⟨f, f1, f2, f3, f4⟩ := T.hi j hj
      exact int_at hxl hfl f1 f2 f3 f4 (by omega)
    obtain ⟨f, f1, f2, f3, f4⟩ := T.hs
    obtain ⟨s, hs, hsz⟩ := str_at hxl hfl f1 f2 f3 f4 (by omega)
    obtain ⟨z0, h0, _⟩ := I 0 (by omega)
    obtain ⟨z1, h1, _⟩ := I 1 (by omega)
    obtain ⟨z2, h2, _⟩ := I 2 (by omega)
    obtain ⟨z3, h3, _⟩ := I 3 (by omega)
    obtain ⟨z4, h4, _⟩ := I 4 (by omega)
    obtain ⟨z5, h5, _⟩ := I 5 (by omega)
    refine ⟨⟨z0, z1, z2, z3, z4, z5, s⟩, fun j hj => ?_, hsz⟩
    have := hcell j hj
    rw [Go.Deep.add_add] at this
    rw [this]
    match j, hj with
    | 0, _ => exact h0
    | 1, _ => exact h1
    | 2, _ => exact h2
    | 3, _ => exact h3
    | 4, _ => exact h4
    | 5, _ => exact h5
    | 6, _ => exact hs
  obtain ⟨q, hq⟩ := Go.Deep.choose_lt each
  refine ⟨_, (List.range len).map q, rfl, ⟨some a, cap, by simp, by simpa using hl, hm, fun h0 => ?_⟩, ?_⟩
  · simp at h0
    obtain ⟨b, off, spot⟩ := a
    have c0 := (hq 0 h0).1 0 (by omega)
    have hspot : spot = none := by simpa [Addr.add] using World.cell?_spot (c0.trans rfl)
    subst hspot
    refine ⟨b, off, rfl, fun j hj => ?_⟩
    simp at hj
    have c := (hq j hj).1
    simp only [List.getElem_map, List.getElem_range]
    have key : ∀ i u, i < 7 → (q j).cells[i]? = some u → W.cell? ⟨b, off + j * 7 + i, none⟩ = some u := fun i u hi hu => by
      have := c i hi
      rw [add_plain, hu] at this
      rw [← this, Nat.add_assoc]
    exact ⟨key 0 _ (by omega) rfl, key 1 _ (by omega) rfl, key 2 _ (by omega) rfl, key 3 _ (by omega) rfl, key 4 _ (by omega) rfl, key 5 _ (by omega) rfl, key 6 _ (by omega) rfl⟩
  · intro y hy
    obtain ⟨i, hi, rfl⟩ := List.mem_map.1 hy
    exact (hq i (List.mem_range.1 hi)).2

noncomputable def entFs : Array Field := match Try.prog.underlying 67 with | some (.struct fs) => fs | _ => #[]
def fieldOf (P : Program) (fs : Array Field) (i : Nat) (ty : TypeDesc → Bool) : Bool := match fs[i]? with
  | some f => f.offset == i && P.cellsOf f.type == 1 && ((P.underlying f.type).map ty).getD false
  | none => false
def isI64 : TypeDesc → Bool
  | .int .i64 => true
  | _ => false
def isStr : TypeDesc → Bool
  | .string => true
  | _ => false
theorem isI64_spec {t : TypeDesc} (h : isI64 t = true) : t = .int .i64 := by
  unfold isI64 at h; split at h
  · rfl
  · cases h
theorem isStr_spec {t : TypeDesc} (h : isStr t = true) : t = .string := by
  unfold isStr at h; split at h
  · rfl
  · cases h
theorem fieldOf_spec {P : Program} {fs : Array Field} {i : Nat} {ty : TypeDesc → Bool} (h : fieldOf P fs i ty = true) : ∃ f, fs[i]? = some f ∧ f.offset = i ∧ P.cellsOf f.type = 1 ∧ ∃ u, P.underlying f.type = some u ∧ ty u = true := by
  unfold fieldOf at h
  cases hf : fs[i]? with
  | none => rw [hf] at h; cases h
  | some f =>
    rw [hf] at h
    simp only [Bool.and_eq_true, beq_iff_eq] at h
    obtain ⟨⟨h1, h2⟩, h3⟩ := h
    refine ⟨f, rfl, h1, h2, ?_⟩
    cases hu : P.underlying f.type with
    | none => rw [hu] at h3; cases h3
    | some u => rw [hu] at h3; exact ⟨u, rfl, h3⟩
theorem entI : ((List.range 6).all fun i => fieldOf Try.prog entFs i isI64) = true := by kernel_rfl
noncomputable def entT : EntT Try.prog 67 where
  fs := entFs
  he := by kernel_rfl
  hc := by kernel_rfl
  hi := fun i hi => by
    obtain ⟨f, h1, h2, h3, u, h4, h5⟩ := fieldOf_spec (List.all_eq_true.1 entI i (List.mem_range.2 hi))
    exact ⟨f, h1, h2, h3, by rw [h4, isI64_spec h5]⟩
  hs := by
    obtain ⟨f, h1, h2, h3, u, h4, h5⟩ := fieldOf_spec (P := Try.prog) (fs := entFs) (i := 6) (ty := isStr) (by kernel_rfl)
    exact ⟨f, h1, h2, h3, by rw [h4, isStr_spec h5]⟩
theorem slentry_open {H : Type} {enc : TypeId × Value → H} {W : World} {base : Nat} {v : Value} {d : DataW H} {ps : List MemPlace}
    (hok : Value.okWide Try.prog W .any base 28 v) (h : DataW.Trod enc Try.prog W 0 (fun _ => true) true 28 v d ps) : ∃ l, rdE W v l ∧ ∀ e ∈ l, e.data.size ≤ 9223372036854775807 := by
  obtain ⟨a0, len0, cap0, rfl⟩ := okWide_slice Try.underlying28 hok
  obtain ⟨fuel, hf⟩ := h
  obtain ⟨v, l, hcs, hr, hd⟩ := rdE_openG entT Try.underlying28 hf
  simp [Value.cells] at hcs
  subst hcs
  exact ⟨l, hr, hd⟩
end Go.Proofs.Ytacchkmdheglaaa
