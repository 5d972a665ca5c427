/- A region that draws its order, walked by a plan over a base b: what only reads b's cells is taken first, all else when nothing else may come up; what was there in b stays. No program in sight. -/
import Derived.Test.YtbmldiklgkojnaaPlan
namespace Go.Proofs.Ytbmldiklgkojnaa
open Go.RowKit

section
variable {P : Program} {ops : Array Oper} {Q : Exit → Act → World → Prop} {md : Region.Mode}

def wpV (P : Program) (md : Region.Mode) (ops : Array Oper) (Q : Exit → Act → World → Prop) : Nat → World → Array Bool → Act → World → Prop
  | 0, _, listed, a, w => Region.ready md ops listed = [] ∧ Q .normal a w
  | f + 1, b, listed, a, w => (Region.ready md ops listed = [] → Q .normal a w) ∧
      ∀ i ∈ Region.ready md ops listed, wpOp P ops Q i (fun a' w2 => ∃ b2, upC b b2 ∧ upC b2 w2 ∧ wpV P md ops Q f b2 (listed.setIfInBounds i true) a' w2) a w
theorem wpV_any : ∀ (f : Nat) (b : World) (listed : Array Bool) (a : Act) (w : World), wpV P md ops Q f b listed a w → wpAny P md ops Q f listed a w
  | 0, _, _, _, _, H => H
  | f + 1, _, _, _, _, H => ⟨H.1, fun i hi => wpOp_mono (fun a' w' ⟨b2, _, _, h⟩ => wpV_any f b2 _ a' w' h) (H.2 i hi)⟩

theorem wpV_first {i : Nat} {oi : Oper} {v : Value} (hi : ops[i]? = some oi) (hsel : ∀ (j : Nat) (o : Oper) cs b, ops[j]? = some o → o.op ≠ .select cs b)
    (hQ : ∀ c a w, Q (.panic c) (a.put oi.dst v) w → Q (.panic c) a w) :
    ∀ (f : Nat) (b : World) (listed : Array Bool) (a : Act) (w : World),
      (∀ j oj, ops[j]? = some oj → j ≠ i → listed.getD j true = false → (∀ e ∈ oj.after, Region.binds md e = true → e.on ≠ i) → oi.apart ops oj = true) →
      i ∈ Region.ready md ops listed → YieldsIf P ops (upC b) oi v a → upC b w →
      wpV P md ops Q f b (listed.setIfInBounds i true) (a.put oi.dst v) w → wpV P md ops Q (f + 1) b listed a w := by
  intro f
  induction f with
  | zero =>
    intro b listed a w _ hr hy hb H
    refine ⟨fun h => (by rw [h] at hr; cases hr), fun j hj => ?_⟩
    by_cases hji : j = i
    · subst hji; exact hy.wpOp hi hb ⟨b, upC_refl _, hb, H⟩
    · have := ready_mono hj hji
      rw [H.1] at this
      cases this
  | succ f ih =>
    intro b listed a w hfree hr hy hb H
    refine ⟨fun h => (by rw [h] at hr; cases hr), fun j hj => ?_⟩
    by_cases hji : j = i
    · subst hji; exact hy.wpOp hi hb ⟨b, upC_refl _, hb, H⟩
    · have h1 := H.2 j (ready_mono hj hji)
      obtain ⟨hjun, oj, hoj, hall⟩ := mem_ready.1 hj
      have hnot : ∀ e ∈ oj.after, Region.binds md e = true → e.on ≠ i := fun e he hb heq => by
        have h1 := hall e he hb
        have h0 := (mem_ready.1 hr).1
        rw [heq] at h1
        rcases Nat.lt_or_ge i listed.size with h' | h'
        · simp [h'] at h0 h1; rw [h0] at h1; cases h1
        · simp [Array.getElem?_eq_none h'] at h1
      have h2 := wpOp_putIf hoj (hfree j oj hoj hji hjun hnot) (fun cs b => hsel i oi cs b hi) (fun cs b => hsel j oj cs b hoj) hQ hy h1
      have hfree' : ∀ k ok, ops[k]? = some ok → k ≠ i → (listed.setIfInBounds j true).getD k true = false →
          (∀ e ∈ ok.after, Region.binds md e = true → e.on ≠ i) → oi.apart ops ok = true := fun k ok hk hki hun hno => by
        refine hfree k ok hk hki ?_ hno
        by_cases hjk : j = k
        · subst hjk; exact hjun
        · rw [getD_set_ne true hjk] at hun; exact hun
      refine wpOp_mono (fun a' w2 h3 => ?_) h2
      obtain ⟨hy3, b2, hbb, hbw, H3⟩ := h3
      refine ⟨b2, hbb, hbw, ih b2 (listed.setIfInBounds j true) a' w2 hfree' (ready_mono hr (Ne.symm hji)) (yields_up hbb hy3) hbw ?_⟩
      rw [Array.setIfInBounds_comm _ _ hji]
      exact H3

/-- a plan: q: taken first; l: taken alone; two: either of two -/
inductive Pl where
  | fin
  | q (k : Nat) (p : Pl)
  | l (k : Nat) (p : Pl)
  | two (k1 : Nat) (p1 : Pl) (k2 : Nat) (p2 : Pl)
def Pl.size : Pl → Nat
  | .fin => 0
  | .q _ p => p.size + 1
  | .l _ p => p.size + 1
  | .two _ p1 _ _ => p1.size + 1

def plB (md : Region.Mode) (ops : Array Oper) : Pl → Array Bool → Bool
  | .fin, listed => (Region.ready md ops listed).isEmpty
  | .q k p, listed => (Region.ready md ops listed).contains k && Region.free md ops listed k && ((ops[k]?).map pureOp).getD false && plB md ops p (listed.setIfInBounds k true)
  | .l k p, listed => decide (Region.ready md ops listed = [k]) && plB md ops p (listed.setIfInBounds k true)
  | .two k1 p1 k2 p2, listed => decide (Region.ready md ops listed = [k1, k2]) && decide (p1.size = p2.size) && plB md ops p1 (listed.setIfInBounds k1 true) && plB md ops p2 (listed.setIfInBounds k2 true)

def wpPl (P : Program) (ops : Array Oper) (Q : Exit → Act → World → Prop) : Pl → World → Act → World → Prop
  | .fin, _, a, w => Q .normal a w
  | .q k p, b, a, w => qOp P ops (upC b) k (fun a' => wpPl P ops Q p b a' w) a
  | .l k p, b, a, w => wpOp P ops Q k (fun a' w2 => ∃ b2, upC b b2 ∧ upC b2 w2 ∧ wpPl P ops Q p b2 a' w2) a w
  | .two k1 p1 k2 p2, b, a, w => wpOp P ops Q k1 (fun a' w2 => ∃ b2, upC b b2 ∧ upC b2 w2 ∧ wpPl P ops Q p1 b2 a' w2) a w ∧
      wpOp P ops Q k2 (fun a' w2 => ∃ b2, upC b b2 ∧ upC b2 w2 ∧ wpPl P ops Q p2 b2 a' w2) a w

theorem wpV_plan (hsel : Region.noSelect ops = true) (hQ : ∀ c a w, ¬ Q (.panic c) a w) :
    ∀ (p : Pl) (b : World) (listed : Array Bool) (a : Act) (w : World), plB md ops p listed = true → upC b w → wpPl P ops Q p b a w → wpV P md ops Q p.size b listed a w
  | .fin, b, listed, a, w, hB, _, h => ⟨by simpa [plB] using hB, h⟩
  | .q k p, b, listed, a, w, hB, hb, h => by
    simp only [plB, Bool.and_eq_true] at hB
    obtain ⟨⟨⟨hr, hf⟩, hp⟩, hB'⟩ := hB
    have hr' : k ∈ Region.ready md ops listed := by simpa using hr
    cases ho : ops[k]? with
    | none => rw [ho] at hp; cases hp
    | some o =>
      rw [ho] at hp
      obtain ⟨v, hy, hK⟩ := yieldsIn_of_qOp ho h
      exact wpV_first ho (Region.noSelect_spec hsel) (fun c a w h => absurd h (hQ c _ w)) p.size b listed a w (Region.free_spec ho hf) hr' (yieldsIf_of_in hp hy) hb
        (wpV_plan hsel hQ p b _ _ w hB' hb hK)
  | .l k p, b, listed, a, w, hB, hb, h => by
    simp only [plB, Bool.and_eq_true, decide_eq_true_eq] at hB
    obtain ⟨hr, hB'⟩ := hB
    refine ⟨fun h0 => (by rw [h0] at hr; cases hr), fun i hi => ?_⟩
    rw [hr] at hi
    have hik : i = k := by simpa using hi
    subst hik
    exact wpOp_mono (fun a' w2 ⟨b2, h1, h2, h3⟩ => ⟨b2, h1, h2, wpV_plan hsel hQ p b2 _ _ w2 hB' h2 h3⟩) h
  | .two k1 p1 k2 p2, b, listed, a, w, hB, hb, h => by
    simp only [plB, Bool.and_eq_true, decide_eq_true_eq] at hB
    obtain ⟨⟨⟨hr, hsz⟩, hB1⟩, hB2⟩ := hB
    refine ⟨fun h0 => (by rw [h0] at hr; cases hr), fun i hi => ?_⟩
    rw [hr] at hi
    have hik : i = k1 ∨ i = k2 := by simpa using hi
    rcases hik with rfl | rfl
    · exact wpOp_mono (fun a' w2 ⟨b2, h1, h2, h3⟩ => ⟨b2, h1, h2, wpV_plan hsel hQ p1 b2 _ _ w2 hB1 h2 h3⟩) h.1
    · refine wpOp_mono (fun a' w2 ⟨b2, h1, h2, h3⟩ => ⟨b2, h1, h2, ?_⟩) h.2
      have := wpV_plan hsel hQ p2 b2 _ _ w2 hB2 h2 h3
      rw [← hsz] at this
      exact this

/-- THE REGION BY A PLAN, over a base -/
theorem wp_region_pl {id : Nat} {a : Act} {w : World} {l : List Oper} (b : World) (p : Pl) (hm : P.follows .mixedOrders = true)
    (hB : (Region.noSelect l.toArray && plB .any l.toArray p (Array.replicate l.toArray.size false) && decide (p.size = l.toArray.size)) = true)
    (hb : Below b.heap.size b w) (h : ∀ w2, w2.heap = w.heap → Below b.heap.size b w2 → Below w.heap.size w w2 → wpPl P l.toArray (NoPanic Q) p b a w2) : (Code.region id l.toArray true).wp P Q a w := by
  simp only [Bool.and_eq_true, decide_eq_true_eq] at hB
  obtain ⟨⟨hsel, hpl⟩, hlen⟩ := hB
  refine wp_region_noPanic (wp_region_any hm (wpV_any _ b _ _ _ ?_))
  have H := wpV_plan (Q := NoPanic Q) hsel (fun _ _ _ h => h) p b _ _ w.drew hpl (upC_of hb.drew) (h w.drew rfl hb.drew (Below.refl _ w).drew)
  rw [hlen] at H
  exact H

theorem pl_q {l : List Oper} {k : Nat} {p : Pl} {a : Act} {b w : World} {o : Oper} (hk : l[k]? = some o)
    (h : wpQuiet P l.toArray (fun w' => ∃ x, w' = upTo b x) (fun a' => wpPl P l.toArray Q p b a' w) [o] a) : wpPl P l.toArray Q (.q k p) b a w := by
  unfold wpPl qOp
  simp only [List.getElem?_toArray, hk]
  exact h
/-- a step that is taken alone: name the next base -/
theorem pl_l {l : List Oper} {k : Nat} {p : Pl} {a : Act} {b w : World} {o : Oper} (hk : l[k]? = some o) (hw : Region.wanted o (yielded l.toArray a.tmps) = true)
    (h : ∀ K : Act → World → Prop, (∀ (b2 : World) a2 w2, Below b.heap.size b b2 → Below b2.heap.size b2 w2 → wpPl P l.toArray Q p b2 a2 w2 → K a2 w2) → Oper.wp P o a w K Q) : wpPl P l.toArray Q (.l k p) b a w := by
  unfold wpPl wpOp
  simp only [List.getElem?_toArray, hk, hw, if_true]
  exact .inl (h _ fun b2 a2 w2 h1 h2 hp => ⟨b2, upC_of h1, upC_of h2, hp⟩)
theorem pl_s {l : List Oper} {k : Nat} {p : Pl} {a : Act} {b w : World} {o : Oper} (hk : l[k]? = some o) (hb : Below b.heap.size b w) (hw : Region.wanted o (yielded l.toArray a.tmps) = false)
    (h : wpPl P l.toArray Q p b (a.put o.dst undef) w) : wpPl P l.toArray Q (.l k p) b a w := by
  unfold wpPl wpOp
  simp only [List.getElem?_toArray, hk, hw]
  exact ⟨b, upC_refl _, upC_of hb, h⟩
theorem pl_two {l : List Oper} {k1 k2 : Nat} {p1 p2 : Pl} {a : Act} {b w : World} (h1 : wpPl P l.toArray Q (.l k1 p1) b a w) (h2 : wpPl P l.toArray Q (.l k2 p2) b a w) : wpPl P l.toArray Q (.two k1 p1 k2 p2) b a w := by
  unfold wpPl at h1 h2 ⊢
  exact ⟨h1, h2⟩
theorem pl_fin {l : List Oper} {a : Act} {b w : World} (h : Q .normal a w) : wpPl P l.toArray (NoPanic Q) .fin b a w := h
end
end Go.Proofs.Ytbmldiklgkojnaa
