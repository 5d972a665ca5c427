/- A log in memory, and what may be added; plain. -/
import Derived.Test.YtacchkmdheglaaaListC
namespace Go.Proofs.Ytacchkmdheglaaa
open Go.RowKit

/-- only blocks of F, and new ones, have turned -/
structure Chg (F : Nat → Prop) (w w' : World) : Prop where
  os : w'.os = w.os
  tape : w'.tape = w.tape
  output : w'.output = w.output
  size : w.heap.size ≤ w'.heap.size
  block : ∀ k, k < w.heap.size → ¬ F k → w'.heap[k]? = w.heap[k]?

/-- a footprint, grown by what is new -/
def Gr (F : Nat → Prop) (w w' : World) : Nat → Prop := fun k => F k ∨ (w.heap.size ≤ k ∧ k < w'.heap.size)

theorem Chg.refl (F : Nat → Prop) (w : World) : Chg F w w := ⟨rfl, rfl, rfl, Nat.le_refl _, fun _ _ _ => rfl⟩
theorem Chg.of_below {F : Nat → Prop} {w w' : World} (h : Below w.heap.size w w') : Chg F w w' := ⟨h.os, h.tape, h.output, h.size, fun k hk _ => h.block k hk⟩
theorem Chg.trans {F : Nat → Prop} {a b c : World} (h : Chg F a b) (k : Chg (Gr F a b) b c) : Chg F a c :=
  ⟨k.os.trans h.os, k.tape.trans h.tape, k.output.trans h.output, Nat.le_trans h.size k.size, fun i hi hF =>
    (k.block i (Nat.lt_of_lt_of_le hi h.size) (fun g => g.elim hF fun g => Nat.not_le.2 hi g.1)).trans (h.block i hi hF)⟩
theorem Chg.mono {F G : Nat → Prop} {w w' : World} (h : Chg F w w') (hF : ∀ k, k < w.heap.size → F k → G k) : Chg G w w' :=
  ⟨h.os, h.tape, h.output, h.size, fun k hk hG => h.block k hk fun f => hG (hF k hk f)⟩
theorem Chg.below {F : Nat → Prop} {w w' : World} {B : Nat} (h : Chg F w w') (hB : B ≤ w.heap.size) (hF : ∀ k, F k → B ≤ k) : Below B w w' :=
  ⟨h.os, h.tape, h.output, h.size, fun k hk => h.block k (by omega) fun f => by have := hF k f; omega⟩
theorem heap_lt {w : World} {b : Nat} {o : Obj} (h : w.heap[b]? = some o) : b < w.heap.size := (Array.getElem?_eq_some_iff.1 h).1

/-- a log in memory: its block and its row lie in F -/
def lgO (w : World) (F : Nat → Prop) (b : Nat) (l : List Ent) : Prop :=
  F b ∧ ∃ v, w.heap[b]? = some (.cells #[v] 90 (0, 0)) ∧ ownE w 0 67 v l ∧ ∀ k, v.ownBlock = some k → F k

theorem ownE.lt {w : World} {base : Nat} {E : TypeId} {v : Value} {l : List Ent} (h : ownE w base E v l) : ∀ k, v.ownBlock = some k → base ≤ k ∧ k < w.heap.size := World.ownsRow.lt h
theorem ownE.chg {w w' : World} {F : Nat → Prop} {base : Nat} {E : TypeId} {v : Value} {l : List Ent} (h : ownE w base E v l) (hc : Chg F w w') (hn : ∀ k, v.ownBlock = some k → ¬ F k) : ownE w' base E v l := by
  obtain ⟨h1, h2⟩ := h
  refine ⟨h1, h2.imp id ?_⟩
  rintro ⟨g, cap, cur, rfl, e2, e3, e4, e5, e6, e7⟩
  exact ⟨g, cap, cur, rfl, e2, by rw [hc.block g (heap_lt e3) (hn g rfl)]; exact e3, e4, e5, e6, e7⟩
theorem rdE.chg {w w' : World} {F : Nat → Prop} {v : Value} {l : List Ent} (h : rdE w v l) (hc : Chg F w w') (hn : ∀ k, v.ownBlock = some k → ¬ F k) : rdE w' v l := by
  obtain ⟨a, cap, rfl, hm, hM, ha⟩ := h
  refine ⟨a, cap, rfl, hm, hM, fun h0 => ?_⟩
  obtain ⟨b, off, rfl, hcl⟩ := ha h0
  refine ⟨b, off, rfl, fun j hj => ?_⟩
  have hlt := (hcl j hj).lt
  have k : ∀ o, w'.cell? ⟨b, o, none⟩ = w.cell? ⟨b, o, none⟩ := fun o => World.cell?_of_block (w := w) (a := ⟨b, o, none⟩) (hc.block b hlt (hn b rfl))
  have := hcl j hj
  unfold cellsE at this ⊢
  simp only [k]; exact this
theorem lgO.rd {w : World} {F : Nat → Prop} {b : Nat} {l : List Ent} (h : lgO w F b l) : rdLog w b l := by
  obtain ⟨_, v, hb, ho, _⟩ := h
  exact ⟨v, by simp [World.cell?, hb], ho.rd⟩
theorem lgO.lt {w : World} {F : Nat → Prop} {b : Nat} {l : List Ent} (h : lgO w F b l) : b < w.heap.size := by
  obtain ⟨_, v, hb, _⟩ := h; exact heap_lt hb
theorem lgO.grow {w w' : World} {F : Nat → Prop} {b : Nat} {l : List Ent} (h : lgO w F b l) (hb : Below w.heap.size w w') : lgO w' F b l := by
  obtain ⟨hF, v, h1, h2, h3⟩ := h
  exact ⟨hF, v, by rw [hb.block b (heap_lt h1)]; exact h1, ownE_grow h2 hb, h3⟩
theorem lgO.mono {w : World} {F G : Nat → Prop} {b : Nat} {l : List Ent} (h : lgO w F b l) (hF : ∀ k, F k → G k) : lgO w G b l := by
  obtain ⟨h0, v, h1, h2, h3⟩ := h
  exact ⟨hF _ h0, v, h1, h2, fun k hk => hF k (h3 k hk)⟩
theorem lgO.chg {w w' : World} {F G : Nat → Prop} {b : Nat} {l : List Ent} (h : lgO w F b l) (hc : Chg G w w') (hn : ∀ k, F k → ¬ G k) : lgO w' F b l := by
  obtain ⟨h0, v, h1, h2, h3⟩ := h
  exact ⟨h0, v, by rw [hc.block b (heap_lt h1) (hn b h0)]; exact h1, h2.chg hc fun k hk => hn k (h3 k hk), h3⟩

/-- is the last one's stamp later? -/
def lateE (l : List Ent) (e : Ent) : Bool := match l.getLast? with | some x => decide (e.stamp < x.stamp) | none => false
def okAdd (l : List Ent) (e : Ent) : Bool := mayE e && !hasE l e && decide (l.length < 60) && !lateE l e
def addE (l : List Ent) (e : Ent) : List Ent := if okAdd l e then l ++ [e] else l
theorem addE_len (l : List Ent) (e : Ent) (h : l.length ≤ 60) : (addE l e).length ≤ 60 := by
  unfold addE; split
  · next h => simp [okAdd] at h; simp; omega
  · exact h
theorem lateE_nil (e : Ent) : lateE [] e = false := rfl
theorem lateE_last {l : List Ent} {k : Nat} (h : l.length = k + 1) (e : Ent) : lateE l e = decide (e.stamp < (l[k]'(by omega)).stamp) := by
  unfold lateE
  rw [List.getLast?_eq_getElem?, List.getElem?_eq_getElem (by omega)]
  simp [h]

/-- behind an append and the store of its result -/
theorem add_close {w w4 w5 : World} {F : Nat → Prop} {b gg n cap1 : Nat} {v : Value} {X : Obj} {l' : List Ent}
    (hbw : b < w.heap.size) (hB4 : Below w.heap.size w w4) (hFb : F b) (hvF : ∀ k, v.ownBlock = some k → F k) (hvb : w4.heap[b]? = some (.cells #[v] 90 (0, 0)))
    (hvn : v.ownBlock ≠ some b) (hn : n = l'.length) (hown : w5.ownsRow 0 67 7 (.slice (some ⟨gg, 0, none⟩) n cap1) n (flatE l'))
    (hgrow : (w4.alloc X).drew.grownBy w5 v.ownBlock) (hat : v.ownBlock = some gg ∨ gg = w4.heap.size + 1) (hlt5 : gg < w5.heap.size) :
    lgO (w5.setCell ⟨b, 0, none⟩ (.slice (some ⟨gg, 0, none⟩) n cap1)) (Gr F w (w5.setCell ⟨b, 0, none⟩ (.slice (some ⟨gg, 0, none⟩) n cap1))) b l' ∧
      Chg F w (w5.setCell ⟨b, 0, none⟩ (.slice (some ⟨gg, 0, none⟩) n cap1)) := by
  have hsz : (w5.setCell ⟨b, 0, none⟩ (.slice (some ⟨gg, 0, none⟩) n cap1)).heap.size = w5.heap.size := World.size_setCell _ _ _
  have h4 : w4.heap.size + 1 ≤ w5.heap.size := by have := hgrow.size; simpa using this
  have h04 := hB4.size
  have key : ∀ k, k < w4.heap.size → some k ≠ v.ownBlock → w5.heap[k]? = w4.heap[k]? := fun k hk hne => by
    rw [hgrow.block k (by simp; omega) hne]
    exact Below.heap_alloc w4 X k hk
  have hb5 : w5.heap[b]? = some (.cells #[v] 90 (0, 0)) := by rw [key b (by omega) (Ne.symm hvn)]; exact hvb
  have hgb : gg ≠ b := by
    rintro rfl
    rcases hat with h | h
    · exact hvn h
    · omega
  subst hn
  refine ⟨⟨.inl hFb, _, one_setCell hb5, ownsRow_setCell_other hown (by intro hk; injection hk with hk; exact hgb hk) _, ?_⟩, ?_⟩
  · intro k hk
    injection hk with hk
    have hk : gg = k := hk
    subst hk
    rcases hat with h | h
    · exact .inl (hvF _ h)
    · exact .inr ⟨by omega, by rw [hsz]; exact hlt5⟩
  · refine ⟨hgrow.os.trans hB4.os, hgrow.tape.trans hB4.tape, hgrow.output.trans hB4.output, by rw [hsz]; omega, fun k hk hF => ?_⟩
    rw [Below.heap_setCell _ _ _ _ (fun e => hF (by rw [show k = b from e]; exact hFb)), key k (by omega) (fun e => hF (hvF k e.symm))]
    exact hB4.block k hk
end Go.Proofs.Ytacchkmdheglaaa
