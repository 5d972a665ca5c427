/- The operations of the quorum's laws, opened; what most have never falls (plain). -/
import Derived.Test.YtimffflhfaiakaaQnC
import Derived.Test.YtimffflhfaiakaaRdS
namespace Go.Proofs.Ytimffflhfaiakaa
open Go.ChangeShapes Go.WideShapes Go.ChangeAt Go.RowKit
set_option linter.unusedVariables false

structure Opq where
  kind : Int
  id : Int
  hv : Int
  pr : Int
instance : Inhabited Opq := ⟨⟨0, 0, 0, 0⟩⟩
def cOpq (w : World) (b o : Nat) (x : Opq) : Prop :=
  w.cell? ⟨b, o, none⟩ = some (.int .i64 x.kind) ∧ w.cell? ⟨b, o + 1, none⟩ = some (.int .i64 x.id) ∧ w.cell? ⟨b, o + 2, none⟩ = some (.int .i64 x.hv) ∧ w.cell? ⟨b, o + 3, none⟩ = some (.int .i64 x.pr) ∧ I64 x.id ∧ I64 x.hv ∧ I64 x.pr
theorem cOpq.grow (w w' : World) (b o : Nat) (x : Opq) (h : cOpq w b o x) (hb : Below w.heap.size w w') : cOpq w' b o x := by
  obtain ⟨h1, h2, h3, h4, h5⟩ := h
  have hlt := cell_lt h1
  have k : ∀ o, w'.cell? ⟨b, o, none⟩ = w.cell? ⟨b, o, none⟩ := fun o => hb.cell hlt
  exact ⟨by rw [k]; exact h1, by rw [k]; exact h2, by rw [k]; exact h3, by rw [k]; exact h4, h5⟩
theorem op21F0 : fieldOf1 Try.prog (fieldsOf Try.prog 56) 0 isI64d = true := by kernel_rfl
theorem op21F1 : fieldOf1 Try.prog (fieldsOf Try.prog 56) 1 isI64d = true := by kernel_rfl
theorem op21F2 : fieldOf1 Try.prog (fieldsOf Try.prog 56) 2 isI64d = true := by kernel_rfl
theorem op21F3 : fieldOf1 Try.prog (fieldsOf Try.prog 56) 3 isI64d = true := by kernel_rfl
set_option maxRecDepth 100000 in
theorem slop21_open {H : Type} {enc : TypeId × Value → H} {W : World} {base : Nat} {v : Value} {d : DataW H} {ps : List MemPlace}
    (hok : Value.okWide Try.prog W .any base 45 v) (h : DataW.Trod enc Try.prog W 0 (fun _ => true) true 45 v d ps) : ∃ l, rdS 4 cOpq W v l ∧ True := by
  obtain ⟨a0, len0, cap0, rfl⟩ := okWide_slice Try.underlying45 hok
  obtain ⟨fuel, hf⟩ := h
  obtain ⟨v, l, hcs, hr⟩ := rdS_openG (C := cOpq) (size := 4) (by omega) (fs := fieldsOf Try.prog 56) Try.underlying45 (by kernel_rfl) (by kernel_rfl) (fun n b off cs' xs hlen hcell hxl hfl => by
    obtain ⟨f0, a1, a2, a3, u0, a4, a5⟩ := fieldOf1_spec op21F0
    obtain ⟨z0, b1, b2⟩ := fint_at hxl hfl a1 a2 a3 (by rw [a4, isI64d_spec a5]) (by omega)
    obtain ⟨f1, c1, c2, c3, u1, c4, c5⟩ := fieldOf1_spec op21F1
    obtain ⟨z1, d1, d2⟩ := fint_at hxl hfl c1 c2 c3 (by rw [c4, isI64d_spec c5]) (by omega)
    obtain ⟨f2, e1, e2, e3, u2, e4, e5⟩ := fieldOf1_spec op21F2
    obtain ⟨z2, g1, g2⟩ := fint_at hxl hfl e1 e2 e3 (by rw [e4, isI64d_spec e5]) (by omega)
    obtain ⟨f3, k1, k2, k3, u3, k4, k5⟩ := fieldOf1_spec op21F3
    obtain ⟨z3, m1, m2⟩ := fint_at hxl hfl k1 k2 k3 (by rw [k4, isI64d_spec k5]) (by omega)
    exact ⟨⟨z0, z1, z2, z3⟩, hcell 0 _ b1, hcell 1 _ d1, hcell 2 _ g1, hcell 3 _ m1, d2, g2, m2⟩) hf
  simp [Value.cells] at hcs
  subst hcs
  exact ⟨l, hr, trivial⟩

/-! what most have -/
theorem drop_take {H : List Int} (hH : H.length = 8) {n : Nat} (hn : n ≤ 7) : (H.drop 1).take n = (List.range n).map fun i => H.getD (i + 1) 0 := by
  apply List.ext_getElem
  · simp [hH]; omega
  · intro i h1 h2
    simp at h2
    rw [List.getElem_take, List.getElem_drop, List.getElem_map, List.getElem_range]
    simp [List.getD, show i + 1 < H.length by omega, Nat.add_comm]
theorem medS_count {H : List Int} (hH : H.length = 8) {n : Nat} (h1 : 1 ≤ n) (hn : n ≤ 7) :
    n < 2 * (List.range n).countP (fun i => decide (medS H n ≤ H.getD (i + 1) 0)) ∧ 2 * (List.range n).countP (fun i => decide (medS H n < H.getD (i + 1) 0)) ≤ n := by
  have := med_count (l := (H.drop 1).take n) (n := n) (by simp [hH]; omega) h1
  rw [drop_take hH hn] at this
  rw [List.countP_map, List.countP_map] at this
  unfold medS
  rw [drop_take hH hn]
  exact this
theorem medS_in {H : List Int} (hH : H.length = 8) {n : Nat} (h1 : 1 ≤ n) (hn : n ≤ 7) : ∃ i, i < n ∧ medS H n = H.getD (i + 1) 0 := by
  have := med_in (l := (H.drop 1).take n) (n := n) (by simp [hH]; omega) h1
  unfold medS
  rw [drop_take hH hn] at this ⊢
  obtain ⟨i, hi, e⟩ := List.mem_map.1 this
  exact ⟨i, List.mem_range.1 hi, e.symm⟩
theorem medS_mono {H H' : List Int} (hH : H.length = 8) (hH' : H'.length = 8) {n : Nat} (h1 : 1 ≤ n) (hn : n ≤ 7) (h : ∀ i, H.getD i 0 ≤ H'.getD i 0) : medS H n ≤ medS H' n := by
  obtain ⟨a, _⟩ := medS_count hH h1 hn
  obtain ⟨_, b⟩ := medS_count hH' h1 hn
  rcases Int.lt_or_le (medS H' n) (medS H n) with hlt | hle
  · have : (List.range n).countP (fun i => decide (medS H n ≤ H.getD (i + 1) 0)) ≤ (List.range n).countP (fun i => decide (medS H' n < H'.getD (i + 1) 0)) := by
      refine List.countP_mono_left fun i _ hi => ?_
      simp only [decide_eq_true_eq] at hi ⊢
      have := h (i + 1)
      omega
    omega
  · exact hle
theorem getD_set {H : List Int} {j : Nat} {x : Int} (hj : j < H.length) (i : Nat) : (H.set j x).getD i 0 = if i = j then x else H.getD i 0 := by
  simp only [List.getD_eq_getElem?_getD, List.getElem?_set]
  by_cases h : j = i
  · subst h; simp [hj]
  · have h' : ¬ i = j := fun e => h e.symm
    simp [h, h']
theorem z8_get (i : Nat) : z8.getD i 0 = 0 := by
  rcases Nat.lt_or_ge i 8 with h | h
  · rcases (by omega : i = 0 ∨ i = 1 ∨ i = 2 ∨ i = 3 ∨ i = 4 ∨ i = 5 ∨ i = 6 ∨ i = 7) with rfl | rfl | rfl | rfl | rfl | rfl | rfl | rfl <;> rfl
  · simp [List.getD, h]
theorem mostT_has {T : Nat} {n : Int} (h : mostT T n = true) : 3 ≤ n ∧ n ≤ 7 ∧ T < 128 ∧ n < 2 * (lenT T : Int) ∧ (T : Int) < 2 ^ n.toNat := by
  simp only [mostT, Bool.and_eq_true, decide_eq_true_eq] at h
  obtain ⟨h1, h2⟩ := h
  have := mayT_lt h1
  rw [mayT_iff] at h1
  rw [Int.toNat_natCast] at h2
  omega
theorem list_first {T : Nat} {n : Int} (h : mostT T n = true) : 0 < (listT T).length := by
  obtain ⟨h1, h2, h3, h4, h5⟩ := mostT_has h
  rw [listT_len T h3]; omega
theorem has_range {T : Nat} {i : Int} (h : hasT T i = true) : 1 ≤ i ∧ i ≤ 7 := by
  unfold hasT at h
  simp only [Bool.and_eq_true] at h
  exact isB_iff.1 h.1
theorem list_has {T : Nat} {x : Int} (h : x ∈ listT T) : hasT T x = true ∧ 1 ≤ x ∧ x ≤ 7 := by
  have : hasT T x = true := by rw [mem_listT]; simpa using h
  exact ⟨this, has_range this⟩
end Go.Proofs.Ytimffflhfaiakaa
