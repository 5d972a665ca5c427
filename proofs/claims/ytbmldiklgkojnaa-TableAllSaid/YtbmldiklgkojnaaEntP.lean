/- Entries as data, and what they are; plain. -/
import Derived.Test.YtbmldiklgkojnaaBase
namespace Go.Proofs.Ytbmldiklgkojnaa
open Go.RowKit

/-- an entry -/
structure Ent where
  frm : Int
  boot : Int
  seq : Int
  ord : Int
  lev : Int
  stamp : Int
  data : ByteArray

abbrev Ent.cells (e : Ent) : List Value := [.int .i64 e.frm, .int .i64 e.boot, .int .i64 e.seq, .int .i64 e.ord, .int .i64 e.lev, .int .i64 e.stamp, .string e.data]
abbrev Ent.val (e : Ent) : Value := .agg #[.int .i64 e.frm, .int .i64 e.boot, .int .i64 e.seq, .int .i64 e.ord, .int .i64 e.lev, .int .i64 e.stamp, .string e.data]

def sameE (a b : Ent) : Bool := a.frm == b.frm && a.boot == b.boot && a.seq == b.seq
def eqE (a b : Ent) : Bool := sameE a b && a.ord == b.ord && a.lev == b.lev && a.stamp == b.stamp && a.data.toList == b.data.toList
def mayE (e : Ent) : Bool :=
  decide (1 ≤ e.frm) && decide (e.frm ≤ 7) && decide (1 ≤ e.boot) && decide (e.boot ≤ 1099511627776) && decide (1 ≤ e.seq) && decide (e.seq ≤ 1099511627776) &&
  decide (0 ≤ e.ord) && decide (e.ord ≤ 2) && decide (0 ≤ e.lev) && decide (e.lev ≤ 2) && decide (0 ≤ e.stamp) && decide (e.stamp ≤ 1099511627776) && decide (e.data.size ≤ 16)

/-- the cells of an entry lie at a place -/
def cellsE (w : World) (b off : Nat) (e : Ent) : Prop :=
  w.cell? ⟨b, off, none⟩ = some (.int .i64 e.frm) ∧ w.cell? ⟨b, off + 1, none⟩ = some (.int .i64 e.boot) ∧ w.cell? ⟨b, off + 2, none⟩ = some (.int .i64 e.seq) ∧
  w.cell? ⟨b, off + 3, none⟩ = some (.int .i64 e.ord) ∧ w.cell? ⟨b, off + 4, none⟩ = some (.int .i64 e.lev) ∧ w.cell? ⟨b, off + 5, none⟩ = some (.int .i64 e.stamp) ∧
  w.cell? ⟨b, off + 6, none⟩ = some (.string e.data)

/-- a slice of entries -/
def rdE (w : World) (v : Value) (l : List Ent) : Prop :=
  ∃ a cap, v = .slice a l.length cap ∧ l.length ≤ cap ∧ cap ≤ maxLen ∧ (0 < l.length → ∃ b off, a = some ⟨b, off, none⟩ ∧ ∀ j (h : j < l.length), cellsE w b (off + j * 7) l[j])

def inB (lo hi : Int) (l : List Int) : Bool := l.all fun n => decide (lo ≤ n) && decide (n ≤ hi)
theorem inB_take (lo hi : Int) (l : List Int) (k : Nat) (h : k < l.length) : inB lo hi (l.take (k + 1)) = (inB lo hi (l.take k) && (decide (lo ≤ l[k]) && decide (l[k] ≤ hi))) := by
  unfold inB; rw [List.take_succ_eq_append_getElem h, List.all_append]; simp
theorem inB_false (lo hi : Int) (l : List Int) (k : Nat) (h : inB lo hi (l.take k) = false) : inB lo hi l = false := by
  unfold inB at h ⊢
  rw [← List.take_append_drop k l, List.all_append, h, Bool.false_and]
theorem mayE_in (e : Ent) : mayE e = (inB 1 7 [e.frm] && inB 1 1099511627776 [e.boot, e.seq] && inB 0 2 [e.ord, e.lev] && inB 0 1099511627776 [e.stamp] && decide ((e.data.size : Int) ≤ 16)) := by
  rw [Bool.eq_iff_iff]; simp [mayE, inB]; omega

def cutS (s : ByteArray) (n : Nat) : ByteArray := if n < s.size then s.extract 0 n else s
def cutE (e : Ent) : Ent := { e with data := cutS e.data 20 }
theorem cutS_size (s : ByteArray) (n : Nat) : (cutS s n).size ≤ n := by
  unfold cutS; split
  · rw [ByteArray.size_extract]; omega
  · omega

def flatE (l : List Ent) : List Value := l.flatMap Ent.cells
theorem flatE_len (l : List Ent) : (flatE l).length = l.length * 7 := by
  induction l with
  | nil => rfl
  | cons x l ih => unfold flatE at ih ⊢; rw [List.flatMap_cons, List.length_append, ih]; simp; omega
theorem flatE_get (l : List Ent) (j : Nat) (h : j < l.length) (c : Nat) (hc : c < 7) : (flatE l)[j * 7 + c]? = (l[j].cells)[c]? := by
  induction l generalizing j with
  | nil => simp at h
  | cons x l ih =>
    unfold flatE at ih ⊢
    rw [List.flatMap_cons]
    cases j with
    | zero => rw [Nat.zero_mul, Nat.zero_add, List.getElem?_append_left (by simpa using hc)]; rfl
    | succ j =>
      rw [List.getElem?_append_right (by simp; omega), show (j + 1) * 7 + c - x.cells.length = j * 7 + c by simp; omega, ih j (by simpa using h)]
      rfl
theorem flatE_snoc (l : List Ent) (e : Ent) : flatE (l ++ [e]) = flatE l ++ e.cells := by
  unfold flatE; rw [List.flatMap_append]; simp

/-- an owned row of entries -/
def ownE (w : World) (base : Nat) (E : TypeId) (v : Value) (l : List Ent) : Prop := w.ownsRow base E 7 v l.length (flatE l)

theorem ownE.rd {w : World} {base : Nat} {E : TypeId} {v : Value} {l : List Ent} (h : ownE w base E v l) : rdE w v l := by
  obtain ⟨hl, ⟨rfl, h0⟩ | ⟨g, cap, cur, rfl, hb, hg, hn, hc, hs, ht⟩⟩ := h
  · exact ⟨none, 0, by rw [h0], by rw [h0]; exact Nat.zero_le _, Nat.zero_le _, fun h => by omega⟩
  · refine ⟨some ⟨g, 0, none⟩, cap, rfl, hn, hc, fun _ => ⟨g, 0, rfl, fun j hj => ?_⟩⟩
    have key : ∀ c u, c < 7 → (l[j].cells)[c]? = some u → w.cell? ⟨g, 0 + j * 7 + c, none⟩ = some u := by
      intro c u hc7 hu
      have h1 : (cur.toList.take (l.length * 7))[j * 7 + c]? = some u := by rw [ht, flatE_get l j hj c hc7]; exact hu
      rw [List.getElem?_take] at h1
      split at h1
      · simp [World.cell?, hg] at h1 ⊢
        simpa using h1
      · cases h1
    exact ⟨key 0 _ (by omega) rfl, key 1 _ (by omega) rfl, key 2 _ (by omega) rfl, key 3 _ (by omega) rfl, key 4 _ (by omega) rfl, key 5 _ (by omega) rfl, key 6 _ (by omega) rfl⟩

theorem cell_lt {w : World} {b o : Nat} {u : Value} (h : w.cell? ⟨b, o, none⟩ = some u) : b < w.heap.size :=
  Nat.lt_of_not_le fun hge => by
    have e : w.heap[b]? = none := by simp; exact hge
    simp [World.cell?, e] at h
theorem cellsE.lt {w : World} {b o : Nat} {e : Ent} (h : cellsE w b o e) : b < w.heap.size := cell_lt h.1
theorem cellsE.below {w w' : World} {B b o : Nat} {e : Ent} (h : cellsE w b o e) (hb : Below B w w') (hB : b < B) : cellsE w' b o e := by
  have k : ∀ o, w'.cell? ⟨b, o, none⟩ = w.cell? ⟨b, o, none⟩ := fun o => hb.cell hB
  unfold cellsE at h ⊢
  simp only [k]; exact h
theorem rdE.grow {w w' : World} {v : Value} {l : List Ent} (h : rdE w v l) (hb : Below w.heap.size w w') : rdE w' v l := by
  obtain ⟨a, cap, rfl, hm, hM, ha⟩ := h
  refine ⟨a, cap, rfl, hm, hM, fun h0 => ?_⟩
  obtain ⟨b, off, rfl, hc⟩ := ha h0
  exact ⟨b, off, rfl, fun j hj => (hc j hj).below hb (hc j hj).lt⟩
theorem rdE.heap {w w' : World} {v : Value} {l : List Ent} (h : rdE w v l) (hb : w'.heap = w.heap) : rdE w' v l := by
  obtain ⟨a, cap, rfl, hm, hM, ha⟩ := h
  refine ⟨a, cap, rfl, hm, hM, fun h0 => ?_⟩
  obtain ⟨b, off, rfl, hc⟩ := ha h0
  refine ⟨b, off, rfl, fun j hj => ?_⟩
  have := hc j hj
  simp only [cellsE, World.cell?, hb] at this ⊢
  exact this
theorem rdE.len {w : World} {v : Value} {l : List Ent} (h : rdE w v l) : ∃ a cap, v = .slice a l.length cap := by
  obtain ⟨a, cap, rfl, _⟩ := h; exact ⟨a, cap, rfl⟩

theorem ownE_grow {w w' : World} {B : Nat} {E : TypeId} {v : Value} {l : List Ent} (h : ownE w B E v l) (hb : Below w.heap.size w w') : ownE w' B E v l := by
  obtain ⟨h1, h2⟩ := h
  refine ⟨h1, h2.imp id ?_⟩
  rintro ⟨g, cap, cur, e1, e2, e3, e4, e5, e6, e7⟩
  refine ⟨g, cap, cur, e1, e2, ?_, e4, e5, e6, e7⟩
  rw [hb.block g ?_]
  · exact e3
  · exact Nat.lt_of_not_le fun hge => by
      have e : w.heap[g]? = none := by simp; exact hge
      rw [e] at e3; cases e3
end Go.Proofs.Ytbmldiklgkojnaa
