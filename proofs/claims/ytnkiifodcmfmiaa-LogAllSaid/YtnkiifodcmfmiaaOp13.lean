/- The operations of the law LogAll, opened. -/
import Derived.Test.YtnkiifodcmfmiaaEntO
import Derived.Test.YtnkiifodcmfmiaaRdS
namespace Go.Proofs.Ytnkiifodcmfmiaa
open Go.ChangeShapes Go.WideShapes Go.ChangeAt Go.RowKit
set_option linter.unusedVariables false

structure Op13 where
  kind : Int
  at_ : Int
  es : List Ent
instance : Inhabited Op13 := ⟨⟨0, 0, []⟩⟩

def cOp13 (w : World) (b o : Nat) (x : Op13) : Prop :=
  w.cell? ⟨b, o, none⟩ = some (.int .i64 x.kind) ∧ w.cell? ⟨b, o + 1, none⟩ = some (.int .i64 x.at_) ∧ (∃ v, w.cell? ⟨b, o + 2, none⟩ = some v ∧ rdE w v x.es) ∧ (∀ e ∈ x.es, e.data.size ≤ 9223372036854775807) ∧ I64 x.at_ ∧ I64 x.kind
theorem cOp13.grow (w w' : World) (b o : Nat) (x : Op13) (h : cOp13 w b o x) (hb : Below w.heap.size w w') : cOp13 w' b o x := by
  obtain ⟨h1, h2, ⟨v, h3, h4⟩, h5⟩ := h
  have hlt := cell_lt h1
  have k : ∀ o, w'.cell? ⟨b, o, none⟩ = w.cell? ⟨b, o, none⟩ := fun o => hb.cell hlt
  exact ⟨by rw [k]; exact h1, by rw [k]; exact h2, ⟨v, by rw [k]; exact h3, h4.grow hb⟩, h5⟩

theorem op13F0 : fieldOf1 Try.prog (fieldsOf Try.prog 30) 0 isI64d = true := by kernel_rfl
theorem op13F1 : fieldOf1 Try.prog (fieldsOf Try.prog 30) 1 isI64d = true := by kernel_rfl
theorem op13F2 : fieldOf1 Try.prog (fieldsOf Try.prog 30) 2 (isSl 34) = true := by kernel_rfl

theorem slop13_open {H : Type} {enc : TypeId × Value → H} {W : World} {base : Nat} {v : Value} {d : DataW H} {ps : List MemPlace}
    (hok : Value.okWide Try.prog W .any base 23 v) (h : DataW.Trod enc Try.prog W 0 (fun _ => true) true 23 v d ps) : ∃ l, rdS 3 cOp13 W v l ∧ True := by
  obtain ⟨a0, len0, cap0, rfl⟩ := okWide_slice Try.underlying23 hok
  obtain ⟨fuel, hf⟩ := h
  obtain ⟨v, l, hcs, hr⟩ := rdS_openG (C := cOp13) (size := 3) (by omega) (fs := fieldsOf Try.prog 30) Try.underlying23 (by kernel_rfl) (by kernel_rfl) (fun n b off cs' xs hlen hcell hxl hfl => by
    obtain ⟨f0, a1, a2, a3, u0, a4, a5⟩ := fieldOf1_spec op13F0
    obtain ⟨z0, b1, b2⟩ := fint_at hxl hfl a1 a2 a3 (by rw [a4, isI64d_spec a5]) (by omega)
    obtain ⟨f1, c1, c2, c3, u1, c4, c5⟩ := fieldOf1_spec op13F1
    obtain ⟨z1, d1, d2⟩ := fint_at hxl hfl c1 c2 c3 (by rw [c4, isI64d_spec c5]) (by omega)
    obtain ⟨f2, e1, e2, e3, u2, e4, e5⟩ := fieldOf1_spec op13F2
    obtain ⟨v, x, g1, g2⟩ := fany_at hxl hfl e1 e2 e3 (by omega)
    obtain ⟨v', es, g3, g4, g5⟩ := rdE_openG entT (by rw [e4, isSl_spec e5]) g2
    simp at g3; subst g3
    exact ⟨⟨z0, z1, es⟩, hcell 0 _ b1, hcell 1 _ d1, ⟨v, hcell 2 _ g1, g4⟩, g5, d2, b2⟩) hf
  simp [Value.cells] at hcs
  subst hcs
  exact ⟨l, hr, trivial⟩
end Go.Proofs.Ytnkiifodcmfmiaa
