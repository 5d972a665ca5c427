/- A region that draws its order, walked by a plan over a class of worlds, where up to three may come up. No program in sight. -/
import Derived.Test.YtbmldiklgkojnaaPlanD
namespace Go.Proofs.Ytbmldiklgkojnaa
open Go.RowKit

section
variable {P : Program} {ops : Array Oper} {Q : Exit → Act → World → Prop} {md : Region.Mode} {C : World → Prop}

/-- a plan: q: taken first; l: taken alone; two, three: either of them -/
inductive Pm where
  | fin
  | q (k : Nat) (p : Pm)
  | l (k : Nat) (p : Pm)
  | two (k1 : Nat) (p1 : Pm) (k2 : Nat) (p2 : Pm)
  | three (k1 : Nat) (p1 : Pm) (k2 : Nat) (p2 : Pm) (k3 : Nat) (p3 : Pm)
def Pm.size : Pm → Nat
  | .fin => 0
  | .q _ p => p.size + 1
  | .l _ p => p.size + 1
  | .two _ p1 _ _ => p1.size + 1
  | .three _ p1 _ _ _ _ => p1.size + 1

def pmB (md : Region.Mode) (ops : Array Oper) : Pm → Array Bool → Bool
  | .fin, listed => (Region.ready md ops listed).isEmpty
  | .q k p, listed => (Region.ready md ops listed).contains k && Region.free md ops listed k && ((ops[k]?).map pureOp).getD false && pmB md ops p (listed.setIfInBounds k true)
  | .l k p, listed => decide (Region.ready md ops listed = [k]) && pmB md ops p (listed.setIfInBounds k true)
  | .two k1 p1 k2 p2, listed => decide (Region.ready md ops listed = [k1, k2]) && decide (p1.size = p2.size) && pmB md ops p1 (listed.setIfInBounds k1 true) && pmB md ops p2 (listed.setIfInBounds k2 true)
  | .three k1 p1 k2 p2 k3 p3, listed => decide (Region.ready md ops listed = [k1, k2, k3]) && decide (p1.size = p2.size) && decide (p1.size = p3.size) && pmB md ops p1 (listed.setIfInBounds k1 true) && pmB md ops p2 (listed.setIfInBounds k2 true) && pmB md ops p3 (listed.setIfInBounds k3 true)

def wpPm (P : Program) (ops : Array Oper) (Q : Exit → Act → World → Prop) (C : World → Prop) : Pm → Act → World → Prop
  | .fin, a, w => Q .normal a w
  | .q k p, a, w => qOp P ops C k (fun a' => wpPm P ops Q C p a' w) a
  | .l k p, a, w => wpOp P ops Q k (fun a' w2 => C w2 ∧ wpPm P ops Q C p a' w2) a w
  | .two k1 p1 k2 p2, a, w => wpOp P ops Q k1 (fun a' w2 => C w2 ∧ wpPm P ops Q C p1 a' w2) a w ∧ wpOp P ops Q k2 (fun a' w2 => C w2 ∧ wpPm P ops Q C p2 a' w2) a w
  | .three k1 p1 k2 p2 k3 p3, a, w => wpOp P ops Q k1 (fun a' w2 => C w2 ∧ wpPm P ops Q C p1 a' w2) a w ∧ wpOp P ops Q k2 (fun a' w2 => C w2 ∧ wpPm P ops Q C p2 a' w2) a w ∧
      wpOp P ops Q k3 (fun a' w2 => C w2 ∧ wpPm P ops Q C p3 a' w2) a w

theorem wpW_pm (hsel : Region.noSelect ops = true) (hQ : ∀ c a w, ¬ Q (.panic c) a w) :
    ∀ (p : Pm) (listed : Array Bool) (a : Act) (w : World), pmB md ops p listed = true → C w → wpPm P ops Q C p a w → wpW P md ops Q C p.size listed a w
  | .fin, listed, a, w, hB, _, h => ⟨by simpa [pmB] using hB, h⟩
  | .q k p, listed, a, w, hB, hb, h => by
    simp only [pmB, Bool.and_eq_true] at hB
    obtain ⟨⟨⟨hr, hf⟩, hp⟩, hB'⟩ := hB
    have hr' : k ∈ Region.ready md ops listed := by simpa using hr
    cases ho : ops[k]? with
    | none => rw [ho] at hp; cases hp
    | some o =>
      rw [ho] at hp
      obtain ⟨v, hy, hK⟩ := yieldsIn_of_qOp ho h
      exact wpW_first ho (Region.noSelect_spec hsel) (fun c a w h => absurd h (hQ c _ w)) p.size listed a w (Region.free_spec ho hf) hr' (yieldsIf_of_in hp hy) hb
        (wpW_pm hsel hQ p _ _ w hB' hb hK)
  | .l k p, listed, a, w, hB, hb, h => by
    simp only [pmB, Bool.and_eq_true, decide_eq_true_eq] at hB
    obtain ⟨hr, hB'⟩ := hB
    refine ⟨fun h0 => (by rw [h0] at hr; cases hr), fun i hi => ?_⟩
    rw [hr] at hi
    have hik : i = k := by simpa using hi
    subst hik
    exact wpOp_mono (fun a' w2 ⟨h2, h3⟩ => ⟨h2, wpW_pm hsel hQ p _ _ w2 hB' h2 h3⟩) h
  | .two k1 p1 k2 p2, listed, a, w, hB, hb, h => by
    simp only [pmB, Bool.and_eq_true, decide_eq_true_eq] at hB
    obtain ⟨⟨⟨hr, hsz⟩, hB1⟩, hB2⟩ := hB
    refine ⟨fun h0 => (by rw [h0] at hr; cases hr), fun i hi => ?_⟩
    rw [hr] at hi
    have hik : i = k1 ∨ i = k2 := by simpa using hi
    rcases hik with rfl | rfl
    · exact wpOp_mono (fun a' w2 ⟨h2, h3⟩ => ⟨h2, wpW_pm hsel hQ p1 _ _ w2 hB1 h2 h3⟩) h.1
    · refine wpOp_mono (fun a' w2 ⟨h2, h3⟩ => ⟨h2, ?_⟩) h.2
      have := wpW_pm hsel hQ p2 _ _ w2 hB2 h2 h3
      rw [← hsz] at this
      exact this
  | .three k1 p1 k2 p2 k3 p3, listed, a, w, hB, hb, h => by
    simp only [pmB, Bool.and_eq_true, decide_eq_true_eq] at hB
    obtain ⟨⟨⟨⟨⟨hr, hsz⟩, hsz3⟩, hB1⟩, hB2⟩, hB3⟩ := hB
    refine ⟨fun h0 => (by rw [h0] at hr; cases hr), fun i hi => ?_⟩
    rw [hr] at hi
    have hik : i = k1 ∨ i = k2 ∨ i = k3 := by simpa using hi
    rcases hik with rfl | rfl | rfl
    · exact wpOp_mono (fun a' w2 ⟨h2, h3⟩ => ⟨h2, wpW_pm hsel hQ p1 _ _ w2 hB1 h2 h3⟩) h.1
    · refine wpOp_mono (fun a' w2 ⟨h2, h3⟩ => ⟨h2, ?_⟩) h.2.1
      have := wpW_pm hsel hQ p2 _ _ w2 hB2 h2 h3
      rw [← hsz] at this
      exact this
    · refine wpOp_mono (fun a' w2 ⟨h2, h3⟩ => ⟨h2, ?_⟩) h.2.2
      have := wpW_pm hsel hQ p3 _ _ w2 hB3 h2 h3
      rw [← hsz3] at this
      exact this

/-- THE REGION BY A PLAN, over a class: all that differ from b in F alone -/
theorem wp_region_pm {id : Nat} {a : Act} {w : World} {l : List Oper} (F : Nat → Prop) (b : World) (p : Pm) (hm : P.follows .mixedOrders = true)
    (hB : (Region.noSelect l.toArray && pmB .any l.toArray p (Array.replicate l.toArray.size false) && decide (p.size = l.toArray.size)) = true)
    (hb : Chg F b w) (h : ∀ w2, w2.heap = w.heap → Below w.heap.size w w2 → Chg F b w2 → wpPm P l.toArray (NoPanic Q) (inF F b) p a w2) : (Code.region id l.toArray true).wp P Q a w := by
  simp only [Bool.and_eq_true, decide_eq_true_eq] at hB
  obtain ⟨⟨hsel, hpl⟩, hlen⟩ := hB
  refine wp_region_noPanic (wp_region_any hm (wpW_any (C := inF F b) _ _ _ _ ?_))
  have hd := hb.on ((Below.refl _ w).drew)
  have H := wpW_pm (Q := NoPanic Q) (C := inF F b) hsel (fun _ _ _ h => h) p _ _ w.drew hpl (inF_of hd) (h w.drew rfl (Below.refl _ w).drew hd)
  rw [hlen] at H
  exact H

theorem pm_q {l : List Oper} {k : Nat} {p : Pm} {a : Act} {F : Nat → Prop} {b w : World} {o : Oper} (hk : l[k]? = some o)
    (h : wpQuiet P l.toArray (fun w' => ∃ x, w' = upF F b x) (fun a' => wpPm P l.toArray Q (inF F b) p a' w) [o] a) : wpPm P l.toArray Q (inF F b) (.q k p) a w := by
  unfold wpPm qOp
  simp only [List.getElem?_toArray, hk]
  exact h
theorem pm_l {l : List Oper} {k : Nat} {p : Pm} {a : Act} {F : Nat → Prop} {b w : World} {o : Oper} (hk : l[k]? = some o) (hw : Region.wanted o (yielded l.toArray a.tmps) = true)
    (h : ∀ K : Act → World → Prop, (∀ a2 w2, Chg F b w2 → wpPm P l.toArray Q (inF F b) p a2 w2 → K a2 w2) → Oper.wp P o a w K Q) : wpPm P l.toArray Q (inF F b) (.l k p) a w := by
  unfold wpPm wpOp
  simp only [List.getElem?_toArray, hk, hw, if_true]
  exact .inl (h _ fun a2 w2 h1 hp => ⟨inF_of h1, hp⟩)
theorem pm_two {l : List Oper} {k1 k2 : Nat} {p1 p2 : Pm} {a : Act} {C : World → Prop} {w : World} (h1 : wpPm P l.toArray Q C (.l k1 p1) a w) (h2 : wpPm P l.toArray Q C (.l k2 p2) a w) : wpPm P l.toArray Q C (.two k1 p1 k2 p2) a w := by
  unfold wpPm at h1 h2 ⊢
  exact ⟨h1, h2⟩
theorem pm_three {l : List Oper} {k1 k2 k3 : Nat} {p1 p2 p3 : Pm} {a : Act} {C : World → Prop} {w : World} (h1 : wpPm P l.toArray Q C (.l k1 p1) a w) (h2 : wpPm P l.toArray Q C (.l k2 p2) a w) (h3 : wpPm P l.toArray Q C (.l k3 p3) a w) : wpPm P l.toArray Q C (.three k1 p1 k2 p2 k3 p3) a w := by
  unfold wpPm at h1 h2 h3 ⊢
  exact ⟨h1, h2, h3⟩
theorem pm_fin {l : List Oper} {a : Act} {C : World → Prop} {w : World} (h : Q .normal a w) : wpPm P l.toArray (NoPanic Q) C .fin a w := h

/-- a row that is appended: its cells, wherever they lie -/
def srcRow (w : World) (size : Nat) (v : Value) (m : Nat) (news : List Value) : Prop :=
  news.length = m * size ∧ ((∃ c, v = .slice none 0 c ∧ m = 0) ∨ ∃ ad c, v = .slice (some ad) m c ∧ ∀ j u, news[j]? = some u → w.cell? (ad.add j) = some u)
theorem srcRow.below {w w' : World} {size m : Nat} {v : Value} {news : List Value} (h : srcRow w size v m news) (hb : Below w.heap.size w w') : srcRow w' size v m news := by
  obtain ⟨h1, h2⟩ := h
  refine ⟨h1, h2.imp id ?_⟩
  rintro ⟨ad, c, e, hc⟩
  refine ⟨ad, c, e, fun j u hj => ?_⟩
  have := hc j u hj
  rw [← this]
  exact World.cell?_of_block (hb.block _ (by
    unfold World.cell? at this
    rcases Nat.lt_or_ge (ad.add j).block w.heap.size with h | h
    · exact h
    · rw [Array.getElem?_eq_none h] at this; cases this))
variable (w : World)
theorem run_src (t ty : TypeId) (base : Nat) (e : TypeId) (i : TypeInfo) (z : Value) (size bytes : Nat) (ht : P.underlying t = some (.slice e)) (hi : P.info? e = some i) (hz : i.zero = some z)
    (hsize : i.size = size) (hby : i.bytes = bytes) (hzs : z.cells.size = size) (hsz : 0 < size)
    (v : Value) (n : Nat) (xs : List Value) (hown : w.ownsRow base e size v n xs)
    (v2 : Value) (m : Nat) (news : List Value) (hsrc : srcRow w size v2 m news) (h1 : ∀ u ∈ news, u.oneCell' = true)
    (h63 : n + m ≤ maxLen) (hbytes : (n + m) * bytes ≤ 140737488355328) (hbase : base ≤ w.heap.size) :
    ∃ v' w', (Builtin.append_ #[t, t] ty #[v, v2]).run P w = .ok v' w' ∧ w'.ownsRow base e size v' (n + m) (xs ++ news) ∧ w.grownBy w' v.ownBlock ∧ (v'.ownBlock = v.ownBlock ∨ v'.ownBlock = some w.heap.size) := by
  obtain ⟨hl, ⟨c, rfl, rfl⟩ | ⟨ad, c, rfl, hc⟩⟩ := hsrc
  · have hnil : news = [] := by rw [Nat.zero_mul] at hl; exact List.length_eq_zero_iff.1 hl
    subst hnil
    have hrun : (Builtin.append_ #[t, t] ty #[v, .slice none 0 c]).run P w = .ok v w := by
      rcases hown.2 with ⟨rfl, rfl⟩ | ⟨g, cap, cur, rfl, _, _, hnc, _⟩
      · simp [Builtin.append_, run_underlying ht, sizeOf, typeInfo, hi, Builtin.lenOf, Builtin.firstCells]
      · simp [Builtin.append_, run_underlying ht, sizeOf, typeInfo, hi, Builtin.lenOf, Builtin.firstCells, hnc, storeCells]
    exact ⟨v, w, hrun, by simpa using hown, ⟨rfl, rfl, rfl, Nat.le_refl _, fun _ _ _ => rfl⟩, .inl rfl⟩
  · obtain ⟨v', w', hr, h2, h3, _, h5⟩ := run_append_own_at (P := P) w base t ty e i z size bytes ht hi hz hsize hby hzs hsz v n xs hown ad m c news hl hc h1 h63 hbytes hbase
    exact ⟨v', w', hr, h2, h3, h5⟩
theorem wp_src {o : Oper} {a : Act} {K : Act → World → Prop} {Q : Exit → Act → World → Prop} (s x : Operand) (t : TypeId)
    (ho : o.op = .call { callee := .builtin .append, args := #[s, x], argTypes := #[t, t] })
    (base : Nat) (e : TypeId) (i : TypeInfo) (z : Value) (size bytes : Nat) (ht : P.underlying t = some (.slice e)) (hi : P.info? e = some i) (hz : i.zero = some z)
    (hsize : i.size = size) (hby : i.bytes = bytes) (hzs : z.cells.size = size) (hsz : 0 < size)
    (v : Value) (n : Nat) (xs : List Value) (hs : a.eval s = v) (hown : w.ownsRow base e size v n xs)
    (v2 : Value) (m : Nat) (news : List Value) (hx : a.eval x = v2) (hsrc : srcRow w size v2 m news) (h1 : ∀ u ∈ news, u.oneCell' = true)
    (h63 : n + m ≤ maxLen) (hbytes : (n + m) * bytes ≤ 140737488355328) (hbase : base ≤ w.heap.size)
    (h : ∀ v' w', w'.ownsRow base e size v' (n + m) (xs ++ news) → w.grownBy w' v.ownBlock → (v'.ownBlock = v.ownBlock ∨ v'.ownBlock = some w.heap.size) → K (a.put o.dst v') w') : o.wp P a w K Q := by
  obtain ⟨v', w', hr, h2, h3, h4⟩ := run_src (P := P) w t o.type base e i z size bytes ht hi hz hsize hby hzs hsz v n xs hown v2 m news hsrc h1 h63 hbytes hbase
  unfold Oper.wp execOp
  simp only [ho, resolve, invoke, builtin, Sem.run_bind, Sem.run_pure, Result.andThen_ok, List.map_toArray, List.map_cons, List.map_nil, hs, hx, hr]
  exact h v' w' h2 h3 h4
end
end Go.Proofs.Ytbmldiklgkojnaa
