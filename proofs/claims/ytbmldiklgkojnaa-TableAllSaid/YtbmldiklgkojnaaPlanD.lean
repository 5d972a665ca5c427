/- A region that draws its order, walked by a plan over a class of worlds: all worlds that differ from a base in a footprint F, and in what is new, alone. No program in sight. -/
import Derived.Test.YtbmldiklgkojnaaPlanB
import Derived.Test.YtbmldiklgkojnaaChgI
namespace Go.Proofs.Ytbmldiklgkojnaa
open Go.RowKit

/-- a world that differs from b in F, and in what is new, alone -/
structure ExtF (F : Nat → Prop) (b : World) where
  x : World
  h : Chg F b x
instance (F : Nat → Prop) (b : World) : Nonempty (ExtF F b) := ⟨⟨b, Chg.refl F b⟩⟩
def upF (F : Nat → Prop) (b : World) (x : ExtF F b) : World := x.x
theorem upF_chg (F : Nat → Prop) (b : World) (x : ExtF F b) : Chg F b (upF F b x) := x.h
def inF (F : Nat → Prop) (b : World) : World → Prop := fun w => ∃ x, w = upF F b x
theorem inF_of {F : Nat → Prop} {b w : World} (h : Chg F b w) : inF F b w := ⟨⟨w, h⟩, rfl⟩
theorem inF_chg {F : Nat → Prop} {b w : World} (h : inF F b w) : Chg F b w := by
  obtain ⟨x, rfl⟩ := h; exact upF_chg F b x
theorem upF_cell {F : Nat → Prop} {b : World} {g o : Nat} {v : Value} (hF : ¬ F g) (h : b.cell? ⟨g, o, none⟩ = some v) : ∀ x, (upF F b x).cell? ⟨g, o, none⟩ = some v := fun x => by
  rw [← h]; exact World.cell?_of_block (w := b) (a := ⟨g, o, none⟩) ((upF_chg F b x).block g (cell_lt h) hF)

section
variable {P : Program} {ops : Array Oper} {Q : Exit → Act → World → Prop} {md : Region.Mode} {C : World → Prop}

def wpW (P : Program) (md : Region.Mode) (ops : Array Oper) (Q : Exit → Act → World → Prop) (C : World → Prop) : Nat → Array Bool → Act → World → Prop
  | 0, listed, a, w => Region.ready md ops listed = [] ∧ Q .normal a w
  | f + 1, listed, a, w => (Region.ready md ops listed = [] → Q .normal a w) ∧
      ∀ i ∈ Region.ready md ops listed, wpOp P ops Q i (fun a' w2 => C w2 ∧ wpW P md ops Q C f (listed.setIfInBounds i true) a' w2) a w
theorem wpW_any : ∀ (f : Nat) (listed : Array Bool) (a : Act) (w : World), wpW P md ops Q C f listed a w → wpAny P md ops Q f listed a w
  | 0, _, _, _, H => H
  | f + 1, _, _, _, H => ⟨H.1, fun i hi => wpOp_mono (fun a' w' ⟨_, h⟩ => wpW_any f _ a' w' h) (H.2 i hi)⟩

theorem wpW_first {i : Nat} {oi : Oper} {v : Value} (hi : ops[i]? = some oi) (hsel : ∀ (j : Nat) (o : Oper) cs b, ops[j]? = some o → o.op ≠ .select cs b)
    (hQ : ∀ c a w, Q (.panic c) (a.put oi.dst v) w → Q (.panic c) a w) :
    ∀ (f : Nat) (listed : Array Bool) (a : Act) (w : World),
      (∀ j oj, ops[j]? = some oj → j ≠ i → listed.getD j true = false → (∀ e ∈ oj.after, Region.binds md e = true → e.on ≠ i) → oi.apart ops oj = true) →
      i ∈ Region.ready md ops listed → YieldsIf P ops C oi v a → C w →
      wpW P md ops Q C f (listed.setIfInBounds i true) (a.put oi.dst v) w → wpW P md ops Q C (f + 1) listed a w := by
  intro f
  induction f with
  | zero =>
    intro listed a w _ hr hy hb H
    refine ⟨fun h => (by rw [h] at hr; cases hr), fun j hj => ?_⟩
    by_cases hji : j = i
    · subst hji; exact hy.wpOp hi hb ⟨hb, H⟩
    · have := ready_mono hj hji
      rw [H.1] at this
      cases this
  | succ f ih =>
    intro listed a w hfree hr hy hb H
    refine ⟨fun h => (by rw [h] at hr; cases hr), fun j hj => ?_⟩
    by_cases hji : j = i
    · subst hji; exact hy.wpOp hi hb ⟨hb, H⟩
    · have h1 := H.2 j (ready_mono hj hji)
      obtain ⟨hjun, oj, hoj, hall⟩ := mem_ready.1 hj
      have hnot : ∀ e ∈ oj.after, Region.binds md e = true → e.on ≠ i := fun e he hb heq => by
        have h1 := hall e he hb
        have h0 := (mem_ready.1 hr).1
        rw [heq] at h1
        rcases Nat.lt_or_ge i listed.size with h' | h'
        · simp [h'] at h0 h1; rw [h0] at h1; cases h1
        · simp [Array.getElem?_eq_none h'] at h1
      have h2 := wpOp_putIf hoj (hfree j oj hoj hji hjun hnot) (fun cs b => hsel i oi cs b hi) (fun cs b => hsel j oj cs b hoj) hQ hy h1
      have hfree' : ∀ k ok, ops[k]? = some ok → k ≠ i → (listed.setIfInBounds j true).getD k true = false →
          (∀ e ∈ ok.after, Region.binds md e = true → e.on ≠ i) → oi.apart ops ok = true := fun k ok hk hki hun hno => by
        refine hfree k ok hk hki ?_ hno
        by_cases hjk : j = k
        · subst hjk; exact hjun
        · rw [getD_set_ne true hjk] at hun; exact hun
      refine wpOp_mono (fun a' w2 h3 => ?_) h2
      obtain ⟨hy3, hc3, H3⟩ := h3
      refine ⟨hc3, ih (listed.setIfInBounds j true) a' w2 hfree' (ready_mono hr (Ne.symm hji)) hy3 hc3 ?_⟩
      rw [Array.setIfInBounds_comm _ _ hji]
      exact H3

def wpPc (P : Program) (ops : Array Oper) (Q : Exit → Act → World → Prop) (C : World → Prop) : Pl → Act → World → Prop
  | .fin, a, w => Q .normal a w
  | .q k p, a, w => qOp P ops C k (fun a' => wpPc P ops Q C p a' w) a
  | .l k p, a, w => wpOp P ops Q k (fun a' w2 => C w2 ∧ wpPc P ops Q C p a' w2) a w
  | .two k1 p1 k2 p2, a, w => wpOp P ops Q k1 (fun a' w2 => C w2 ∧ wpPc P ops Q C p1 a' w2) a w ∧ wpOp P ops Q k2 (fun a' w2 => C w2 ∧ wpPc P ops Q C p2 a' w2) a w

theorem wpW_plan (hsel : Region.noSelect ops = true) (hQ : ∀ c a w, ¬ Q (.panic c) a w) :
    ∀ (p : Pl) (listed : Array Bool) (a : Act) (w : World), plB md ops p listed = true → C w → wpPc P ops Q C p a w → wpW P md ops Q C p.size listed a w
  | .fin, listed, a, w, hB, _, h => ⟨by simpa [plB] using hB, h⟩
  | .q k p, listed, a, w, hB, hb, h => by
    simp only [plB, Bool.and_eq_true] at hB
    obtain ⟨⟨⟨hr, hf⟩, hp⟩, hB'⟩ := hB
    have hr' : k ∈ Region.ready md ops listed := by simpa using hr
    cases ho : ops[k]? with
    | none => rw [ho] at hp; cases hp
    | some o =>
      rw [ho] at hp
      obtain ⟨v, hy, hK⟩ := yieldsIn_of_qOp ho h
      exact wpW_first ho (Region.noSelect_spec hsel) (fun c a w h => absurd h (hQ c _ w)) p.size listed a w (Region.free_spec ho hf) hr' (yieldsIf_of_in hp hy) hb
        (wpW_plan hsel hQ p _ _ w hB' hb hK)
  | .l k p, listed, a, w, hB, hb, h => by
    simp only [plB, Bool.and_eq_true, decide_eq_true_eq] at hB
    obtain ⟨hr, hB'⟩ := hB
    refine ⟨fun h0 => (by rw [h0] at hr; cases hr), fun i hi => ?_⟩
    rw [hr] at hi
    have hik : i = k := by simpa using hi
    subst hik
    exact wpOp_mono (fun a' w2 ⟨h2, h3⟩ => ⟨h2, wpW_plan hsel hQ p _ _ w2 hB' h2 h3⟩) h
  | .two k1 p1 k2 p2, listed, a, w, hB, hb, h => by
    simp only [plB, Bool.and_eq_true, decide_eq_true_eq] at hB
    obtain ⟨⟨⟨hr, hsz⟩, hB1⟩, hB2⟩ := hB
    refine ⟨fun h0 => (by rw [h0] at hr; cases hr), fun i hi => ?_⟩
    rw [hr] at hi
    have hik : i = k1 ∨ i = k2 := by simpa using hi
    rcases hik with rfl | rfl
    · exact wpOp_mono (fun a' w2 ⟨h2, h3⟩ => ⟨h2, wpW_plan hsel hQ p1 _ _ w2 hB1 h2 h3⟩) h.1
    · refine wpOp_mono (fun a' w2 ⟨h2, h3⟩ => ⟨h2, ?_⟩) h.2
      have := wpW_plan hsel hQ p2 _ _ w2 hB2 h2 h3
      rw [← hsz] at this
      exact this

/-- THE REGION BY A PLAN, over a class: all that differ from b in F alone -/
theorem wp_region_pc {id : Nat} {a : Act} {w : World} {l : List Oper} (F : Nat → Prop) (b : World) (p : Pl) (hm : P.follows .mixedOrders = true)
    (hB : (Region.noSelect l.toArray && plB .any l.toArray p (Array.replicate l.toArray.size false) && decide (p.size = l.toArray.size)) = true)
    (hb : Chg F b w) (h : ∀ w2, w2.heap = w.heap → Below w.heap.size w w2 → Chg F b w2 → wpPc P l.toArray (NoPanic Q) (inF F b) p a w2) : (Code.region id l.toArray true).wp P Q a w := by
  simp only [Bool.and_eq_true, decide_eq_true_eq] at hB
  obtain ⟨⟨hsel, hpl⟩, hlen⟩ := hB
  refine wp_region_noPanic (wp_region_any hm (wpW_any (C := inF F b) _ _ _ _ ?_))
  have hd := hb.on ((Below.refl _ w).drew)
  have H := wpW_plan (Q := NoPanic Q) (C := inF F b) hsel (fun _ _ _ h => h) p _ _ w.drew hpl (inF_of hd) (h w.drew rfl (Below.refl _ w).drew hd)
  rw [hlen] at H
  exact H

theorem pc_q {l : List Oper} {k : Nat} {p : Pl} {a : Act} {F : Nat → Prop} {b w : World} {o : Oper} (hk : l[k]? = some o)
    (h : wpQuiet P l.toArray (fun w' => ∃ x, w' = upF F b x) (fun a' => wpPc P l.toArray Q (inF F b) p a' w) [o] a) : wpPc P l.toArray Q (inF F b) (.q k p) a w := by
  unfold wpPc qOp
  simp only [List.getElem?_toArray, hk]
  exact h
theorem pc_l {l : List Oper} {k : Nat} {p : Pl} {a : Act} {F : Nat → Prop} {b w : World} {o : Oper} (hk : l[k]? = some o) (hw : Region.wanted o (yielded l.toArray a.tmps) = true)
    (h : ∀ K : Act → World → Prop, (∀ a2 w2, Chg F b w2 → wpPc P l.toArray Q (inF F b) p a2 w2 → K a2 w2) → Oper.wp P o a w K Q) : wpPc P l.toArray Q (inF F b) (.l k p) a w := by
  unfold wpPc wpOp
  simp only [List.getElem?_toArray, hk, hw, if_true]
  exact .inl (h _ fun a2 w2 h1 hp => ⟨inF_of h1, hp⟩)
theorem pc_s {l : List Oper} {k : Nat} {p : Pl} {a : Act} {F : Nat → Prop} {b w : World} {o : Oper} (hk : l[k]? = some o) (hb : Chg F b w) (hw : Region.wanted o (yielded l.toArray a.tmps) = false)
    (h : wpPc P l.toArray Q (inF F b) p (a.put o.dst undef) w) : wpPc P l.toArray Q (inF F b) (.l k p) a w := by
  unfold wpPc wpOp
  simp only [List.getElem?_toArray, hk, hw]
  exact ⟨inF_of hb, h⟩
theorem pc_two {l : List Oper} {k1 k2 : Nat} {p1 p2 : Pl} {a : Act} {C : World → Prop} {w : World} (h1 : wpPc P l.toArray Q C (.l k1 p1) a w) (h2 : wpPc P l.toArray Q C (.l k2 p2) a w) : wpPc P l.toArray Q C (.two k1 p1 k2 p2) a w := by
  unfold wpPc at h1 h2 ⊢
  exact ⟨h1, h2⟩
theorem pc_fin {l : List Oper} {a : Act} {C : World → Prop} {w : World} (h : Q .normal a w) : wpPc P l.toArray (NoPanic Q) C .fin a w := h
end
end Go.Proofs.Ytbmldiklgkojnaa
