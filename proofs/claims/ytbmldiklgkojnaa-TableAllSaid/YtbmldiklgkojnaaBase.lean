/- Small general words: what a slice reads as. No program in sight. -/
import Derived.WalkKit
import Derived.Deep.QuietTactic
import Derived.BigQuiet
import Derived.WalkSmall
import Derived.Lib.Hide
namespace Go.Proofs.Ytbmldiklgkojnaa
open Go.RowKit

theorem ret_int {k : IntKind} {a b : Int} (h : a = b) : Ending.returned (.int k a) = .returned (.int k b) := by rw [h]
theorem ret_bool {a b : Bool} (h : a = b) : Ending.returned (.bool a) = .returned (.bool b) := by rw [h]

/-- the slice value v reads as n elements of 'size' cells each: the cells xs. -/
def rd (w : World) (v : Value) (size n : Nat) (xs : List Value) : Prop :=
  xs.length = n * size ∧ ∃ a cap, v = .slice a n cap ∧ n ≤ maxLen ∧ (0 < n * size → ∃ b off, a = some ⟨b, off, none⟩ ∧ ∀ j, j < n * size → w.cell? ⟨b, off + j, none⟩ = xs[j]?)

def intsV (l : List Int) : List Value := l.map (Value.int .i64)

/-- a slice of ints -/
def rdI (w : World) (v : Value) (l : List Int) : Prop :=
  ∃ a cap, v = .slice a l.length cap ∧ l.length ≤ cap ∧ cap ≤ maxLen ∧ (0 < l.length → ∃ b off, a = some ⟨b, off, none⟩ ∧ ∀ j (h : j < l.length), w.cell? ⟨b, off + j, none⟩ = some (.int .i64 l[j]))

/-- an owned row of ints -/
def ownI (w : World) (base : Nat) (E : TypeId) (v : Value) (l : List Int) : Prop := w.ownsRow base E 1 v l.length (intsV l)

theorem ownI.rd {w : World} {base : Nat} {E : TypeId} {v : Value} {l : List Int} (h : ownI w base E v l) : rdI w v l := by
  obtain ⟨hl, ⟨rfl, h0⟩ | ⟨g, cap, cur, rfl, hb, hg, hn, hc, hs, ht⟩⟩ := h
  · exact ⟨none, 0, by rw [h0], by rw [h0]; exact Nat.zero_le _, Nat.zero_le _, fun h => by omega⟩
  · refine ⟨some ⟨g, 0, none⟩, cap, rfl, hn, hc, fun _ => ⟨g, 0, rfl, fun j hj => ?_⟩⟩
    have : cur.toList[j]? = some (.int .i64 l[j]) := by
      have h1 : (cur.toList.take (l.length * 1))[j]? = some (.int .i64 l[j]) := by rw [ht]; simp [intsV, hj]
      rw [List.getElem?_take] at h1
      split at h1
      · exact h1
      · cases h1
    simp [World.cell?, hg] at this ⊢
    simpa using this

theorem rdI.below {w w' : World} {B : Nat} {v : Value} {l : List Int} (h : rdI w v l) (hb : Below B w w') (hB : ∀ a, v.ownBlock = some a → a < B) : rdI w' v l := by
  obtain ⟨a, cap, rfl, hm, hM, ha⟩ := h
  refine ⟨a, cap, rfl, hm, hM, fun h0 => ?_⟩
  obtain ⟨b, off, rfl, hc⟩ := ha h0
  refine ⟨b, off, rfl, fun j hj => ?_⟩
  rw [← hc j hj]
  exact hb.cell (hB b rfl)

theorem rdI.grow {w w' : World} {v : Value} {l : List Int} (h : rdI w v l) (hb : Below w.heap.size w w') : rdI w' v l := by
  obtain ⟨a, cap, rfl, hm, hM, ha⟩ := h
  refine ⟨a, cap, rfl, hm, hM, fun h0 => ?_⟩
  obtain ⟨b, off, rfl, hc⟩ := ha h0
  refine ⟨b, off, rfl, fun j hj => ?_⟩
  rw [← hc j hj]
  refine hb.cell (Nat.lt_of_not_le fun hge => ?_)
  have := hc j hj
  have e : w.heap[b]? = none := by simp; exact hge
  simp [World.cell?, e] at this
theorem rdI.len {w : World} {v : Value} {l : List Int} (h : rdI w v l) : ∃ a cap, v = .slice a l.length cap := by
  obtain ⟨a, cap, rfl, _⟩ := h; exact ⟨a, cap, rfl⟩

/-- at a call in a region that draws: the callee leaves the world alone. -/
theorem quiet_eq {P : Program} {f : FuncId} {args : Array Value} {w : World} {n : Nat} {v : Value}
    (h : Calls P f args (w.drewN n) fun e w' => e = .returned v ∧ w.drewN n = w') : Calls P f args (w.drewN n) fun e w'' => e = .returned v ∧ ∃ m, w'' = w.drewN m :=
  h.mono fun _ _ ⟨he, hm⟩ => ⟨he, n, hm.symm⟩

theorem rdI.getD {w : World} {v : Value} {l : List Int} {n : Nat} (h : rdI w v l) (hn : l.length = n) :
    ∃ a cap, v = .slice a n cap ∧ (0 < n → ∃ b off, a = some ⟨b, off, none⟩ ∧ ∀ j, j < n → w.cell? ⟨b, off + j, none⟩ = some (.int .i64 (l.getD j 0))) := by
  obtain ⟨a, cap, rfl, hm, hM, ha⟩ := h
  subst hn
  refine ⟨a, cap, rfl, fun h0 => ?_⟩
  obtain ⟨b, off, rfl, hc⟩ := ha h0
  refine ⟨b, off, rfl, fun j hj => ?_⟩
  rw [hc j hj, List.getD_eq_getElem?_getD, List.getElem?_eq_getElem hj]; rfl
end Go.Proofs.Ytbmldiklgkojnaa
