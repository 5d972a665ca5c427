/- A region that draws its order, walked by a plan: what only reads is taken first, what makes memory (a call, a new block) is taken when nothing else may come up. Each step leaves all that was there as it was. No program in sight. -/
import Derived.Test.YtbmldiklgkojnaaUp
import Derived.OrdersHeld
import Derived.Deep.RegionHeld3
namespace Go.Proofs.Ytbmldiklgkojnaa
open Go.RowKit

def upC (w : World) : World → Prop := fun w' => ∃ x, w' = upTo w x
theorem upC_below {w w' : World} (h : upC w w') : Below w.heap.size w w' := up_below h
theorem upC_of {w w' : World} (h : Below w.heap.size w w') : upC w w' := ⟨⟨w', h⟩, rfl⟩
theorem upC_refl (w : World) : upC w w := upC_of (Below.refl _ _)
theorem upC_trans {a b c : World} (h : upC a b) (k : upC b c) : upC a c := upC_of ((upC_below h).trans ((upC_below k).mono (upC_below h).size))

section
variable {P : Program} {ops : Array Oper} {Q : Exit → Act → World → Prop} {md : Region.Mode}

def wpU (P : Program) (md : Region.Mode) (ops : Array Oper) (Q : Exit → Act → World → Prop) : Nat → Array Bool → Act → World → Prop
  | 0, listed, a, w => Region.ready md ops listed = [] ∧ ∀ w', upC w w' → Q .normal a w'
  | f + 1, listed, a, w => (Region.ready md ops listed = [] → ∀ w', upC w w' → Q .normal a w') ∧
      ∀ i ∈ Region.ready md ops listed, ∀ w', upC w w' → wpOp P ops Q i (fun a' w2 => upC w' w2 ∧ wpU P md ops Q f (listed.setIfInBounds i true) a' w2) a w'

theorem wpU_up {w w2 : World} (h : upC w w2) : ∀ (f : Nat) (listed : Array Bool) (a : Act), wpU P md ops Q f listed a w → wpU P md ops Q f listed a w2
  | 0, _, _, H => ⟨H.1, fun w' hw => H.2 w' (upC_trans h hw)⟩
  | _ + 1, _, _, H => ⟨fun h0 w' hw => H.1 h0 w' (upC_trans h hw), fun i hi w' hw => H.2 i hi w' (upC_trans h hw)⟩
theorem wpU_any : ∀ (f : Nat) (listed : Array Bool) (a : Act) (w : World), wpU P md ops Q f listed a w → wpAny P md ops Q f listed a w
  | 0, _, _, w, H => ⟨H.1, H.2 w (upC_refl w)⟩
  | f + 1, _, _, w, H => ⟨fun h0 => H.1 h0 w (upC_refl w), fun i hi => wpOp_mono (fun a' w' h => wpU_any f _ a' w' h.2) (H.2 i hi w (upC_refl w))⟩

theorem yields_up {o : Oper} {v : Value} {a : Act} {w w2 : World} (h : upC w w2) (hy : YieldsIf P ops (upC w) o v a) : YieldsIf P ops (upC w2) o v a :=
  hy.imp (fun ⟨hw, hv⟩ => ⟨hw, fun x hx => hv x (upC_trans h hx)⟩) id

theorem wpU_first {i : Nat} {oi : Oper} {v : Value} (hi : ops[i]? = some oi) (hsel : ∀ (j : Nat) (o : Oper) cs b, ops[j]? = some o → o.op ≠ .select cs b)
    (hQ : ∀ c a w, Q (.panic c) (a.put oi.dst v) w → Q (.panic c) a w) :
    ∀ (f : Nat) (listed : Array Bool) (a : Act) (w : World),
      (∀ j oj, ops[j]? = some oj → j ≠ i → listed.getD j true = false → (∀ e ∈ oj.after, Region.binds md e = true → e.on ≠ i) → oi.apart ops oj = true) →
      i ∈ Region.ready md ops listed → YieldsIf P ops (upC w) oi v a →
      wpU P md ops Q f (listed.setIfInBounds i true) (a.put oi.dst v) w → wpU P md ops Q (f + 1) listed a w := by
  intro f
  induction f with
  | zero =>
    intro listed a w _ hr hy H
    refine ⟨fun h => (by rw [h] at hr; cases hr), fun j hj w' hw' => ?_⟩
    by_cases hji : j = i
    · subst hji; exact hy.wpOp hi hw' ⟨upC_refl _, wpU_up hw' _ _ _ H⟩
    · have := ready_mono hj hji
      rw [H.1] at this
      cases this
  | succ f ih =>
    intro listed a w hfree hr hy H
    refine ⟨fun h => (by rw [h] at hr; cases hr), fun j hj w' hw' => ?_⟩
    by_cases hji : j = i
    · subst hji; exact hy.wpOp hi hw' ⟨upC_refl _, wpU_up hw' _ _ _ H⟩
    · have h1 := H.2 j (ready_mono hj hji) w' hw'
      obtain ⟨hjun, oj, hoj, hall⟩ := mem_ready.1 hj
      have hnot : ∀ e ∈ oj.after, Region.binds md e = true → e.on ≠ i := fun e he hb heq => by
        have h1 := hall e he hb
        have h0 := (mem_ready.1 hr).1
        rw [heq] at h1
        rcases Nat.lt_or_ge i listed.size with h' | h'
        · simp [h'] at h0 h1; rw [h0] at h1; cases h1
        · simp [Array.getElem?_eq_none h'] at h1
      have h2 := wpOp_putIf hoj (hfree j oj hoj hji hjun hnot) (fun cs b => hsel i oi cs b hi) (fun cs b => hsel j oj cs b hoj) hQ hy h1
      have hfree' : ∀ k ok, ops[k]? = some ok → k ≠ i → (listed.setIfInBounds j true).getD k true = false →
          (∀ e ∈ ok.after, Region.binds md e = true → e.on ≠ i) → oi.apart ops ok = true := fun k ok hk hki hun hno => by
        refine hfree k ok hk hki ?_ hno
        by_cases hjk : j = k
        · subst hjk; exact hjun
        · rw [getD_set_ne true hjk] at hun; exact hun
      refine wpOp_mono (fun a' w2 h3 => ⟨h3.2.1, ih (listed.setIfInBounds j true) a' w2 hfree' (ready_mono hr (Ne.symm hji)) (yields_up (upC_trans hw' h3.2.1) h3.1) ?_⟩) h2
      rw [Array.setIfInBounds_comm _ _ hji]
      exact h3.2.2

/-- operations that only hand on a value -/
def pureOp (o : Oper) : Bool := match o.op with
  | .move _ | .assign _ | .pick .. | .load .. | .binOp .. | .unOp .. | .convert .. | .slice .. | .fieldAddr .. | .field .. | .indexAddr .. | .index .. | .extract .. | .lookup .. => true
  | .nilCheck _ => true
  | .call c => (match c.callee with | .builtin .len => true | .builtin .min => true | .builtin .max => true | _ => false)
  | _ => false
theorem run_pure_value {s : Sem Value} {w w' : World} {n : Next} (h : (do pure (Next.value (← s)) : Sem Next).run P w = .ok n w') : ∃ v, n = .value v := by
  simp only [Sem.run_bind] at h
  cases hs : s.run P w with
  | ok v w1 => rw [hs] at h; simp only [Result.andThen_ok, Sem.run_pure] at h; injection h with h _; exact ⟨v, h.symm⟩
  | halt x w1 => rw [hs] at h; cases h
theorem run_bind_value {α : Type} {s : Sem α} {f : α → Value} {w w' : World} {n : Next} (h : (do pure (Next.value (f (← s))) : Sem Next).run P w = .ok n w') : ∃ v, n = .value v := by
  simp only [Sem.run_bind] at h
  cases hs : s.run P w with
  | ok v w1 => rw [hs] at h; simp only [Result.andThen_ok, Sem.run_pure] at h; injection h with h _; exact ⟨_, h.symm⟩
  | halt x w1 => rw [hs] at h; cases h
theorem run_here_value {v : Value} {w w' : World} {n : Next} (h : (pure (Next.value v) : Sem Next).run P w = .ok n w') : ∃ v, n = .value v := by
  simp only [Sem.run_pure] at h; injection h with h _; exact ⟨_, h.symm⟩
theorem run_bind_any {α β : Type} {s : Sem α} {f : α → Sem β} {w w' : World} {n : β} (h : (s >>= f).run P w = .ok n w') : ∃ a w1, s.run P w = .ok a w1 ∧ (f a).run P w1 = .ok n w' := by
  rw [Sem.run_bind] at h
  cases hs : s.run P w with
  | ok a w1 => rw [hs] at h; exact ⟨a, w1, rfl, h⟩
  | halt x w1 => rw [hs] at h; cases h
theorem run_panic_no {α : Type} {w w' : World} {n : α} (h : (runtimePanic .nilDeref : Sem α).run P w = .ok n w') : False := by
  simp [runtimePanic, goPanic] at h
theorem call_value {c : Call} {ty : TypeId} {ρ : Operand → Value} {w w' : World} {n : Next} (hp : (match c.callee with | .builtin .len => true | .builtin .min => true | .builtin .max => true | _ => false) = true)
    (h : (do let d ← resolve ρ c ty; invoke d.target d.args : Sem Next).run P w = .ok n w') : ∃ v, n = .value v := by
  unfold resolve at h
  cases hc : c.callee with
  | builtin b =>
    rw [hc] at hp h
    cases b <;> simp only [Bool.false_eq_true] at hp
    all_goals
      simp only [invoke, builtin, Sem.run_bind, Sem.run_pure, Result.andThen_ok] at h
      exact run_pure_value (by rw [Sem.run_bind]; simp only [Sem.run_pure]; exact h)
  | invoke r m => rw [hc] at hp; simp at hp
  | value f => rw [hc] at hp; simp at hp
theorem pureOp_value {o : Oper} (hp : pureOp o = true) {ρ : Operand → Value} {w w' : World} {n : Next} (h : (execOp ρ o).run P w = .ok n w') : ∃ v, n = .value v := by
  unfold pureOp at hp
  unfold execOp at h
  cases ho : o.op <;> rw [ho] at hp h <;> simp only at hp h <;> first
    | exact absurd hp Bool.false_ne_true
    | exact run_here_value h
    | exact run_pure_value h
    | exact run_bind_value h
    | exact call_value hp h
    | skip
  -- the nil check
  repeat' split at h
  all_goals first
    | exact run_here_value h
    | (obtain ⟨a1, w1, _, h⟩ := run_bind_any h
       obtain ⟨a2, w2, _, h⟩ := run_bind_any h
       split at h
       · obtain ⟨a3, w3, _, h⟩ := run_bind_any h
         exact run_here_value h
       · exact run_here_value h)
    | (exfalso; exact run_panic_no h)

theorem yieldsIf_of_in {o : Oper} {v : Value} {a : Act} {C : World → Prop} (hp : pureOp o = true) (hy : YieldsIn P ops C o v a) : YieldsIf P ops C o v a := by
  refine hy.imp (fun ⟨hw, hv⟩ => ⟨hw, fun x hx => ?_⟩) id
  have h := hv x hx
  unfold Oper.quietAt at h
  cases hr : (execOp a.eval o).run P x with
  | ok n w' =>
    obtain ⟨u, rfl⟩ := pureOp_value hp hr
    rw [hr] at h
    simp only [Oper.quietUpon] at h
    rw [h.1, h.2]
  | halt y w' => rw [hr] at h; simp only [Oper.quietUpon] at h

def wpPlan (P : Program) (ops : Array Oper) (Q : Exit → Act → World → Prop) : List (Nat × Bool) → Act → World → Prop
  | [], a, w => ∀ w', upC w w' → Q .normal a w'
  | (k, false) :: ps, a, w => qOp P ops (upC w) k (fun a' => wpPlan P ops Q ps a' w) a
  | (k, true) :: ps, a, w => ∀ w', upC w w' → wpOp P ops Q k (fun a' w2 => upC w' w2 ∧ wpPlan P ops Q ps a' w2) a w'

def planB (md : Region.Mode) (ops : Array Oper) : List (Nat × Bool) → Array Bool → Bool
  | [], listed => (Region.ready md ops listed).isEmpty
  | (k, false) :: ps, listed => (Region.ready md ops listed).contains k && Region.free md ops listed k && ((ops[k]?).map pureOp).getD false && planB md ops ps (listed.setIfInBounds k true)
  | (k, true) :: ps, listed => decide (Region.ready md ops listed = [k]) && planB md ops ps (listed.setIfInBounds k true)

theorem wpU_plan (hsel : Region.noSelect ops = true) (hQ : ∀ c a w, ¬ Q (.panic c) a w) :
    ∀ (ps : List (Nat × Bool)) (listed : Array Bool) (a : Act) (w : World), planB md ops ps listed = true → wpPlan P ops Q ps a w → wpU P md ops Q ps.length listed a w
  | [], listed, a, w, hB, h => ⟨by simpa [planB] using hB, h⟩
  | (k, false) :: ps, listed, a, w, hB, h => by
    simp only [planB, Bool.and_eq_true] at hB
    obtain ⟨⟨⟨hr, hf⟩, hp⟩, hB'⟩ := hB
    have hr' : k ∈ Region.ready md ops listed := by simpa using hr
    cases ho : ops[k]? with
    | none => rw [ho] at hp; cases hp
    | some o =>
      rw [ho] at hp
      obtain ⟨v, hy, hK⟩ := yieldsIn_of_qOp ho h
      exact wpU_first ho (Region.noSelect_spec hsel) (fun c a w h => absurd h (hQ c _ w)) ps.length listed a w (Region.free_spec ho hf) hr' (yieldsIf_of_in hp hy)
        (wpU_plan hsel hQ ps _ _ w hB' hK)
  | (k, true) :: ps, listed, a, w, hB, h => by
    simp only [planB, Bool.and_eq_true, decide_eq_true_eq] at hB
    obtain ⟨hr, hB'⟩ := hB
    refine ⟨fun h0 => (by rw [h0] at hr; cases hr), fun i hi w' hw' => ?_⟩
    rw [hr] at hi
    have hik : i = k := by simpa using hi
    subst hik
    exact wpOp_mono (fun a' w2 h3 => ⟨h3.1, wpU_plan hsel hQ ps _ _ w2 hB' h3.2⟩) (h w' hw')

/-- THE REGION BY A PLAN -/
theorem wp_region_plan {id : Nat} {a : Act} {w : World} {l : List Oper} (ps : List (Nat × Bool)) (hm : P.follows .mixedOrders = true)
    (hB : (Region.noSelect l.toArray && planB .any l.toArray ps (Array.replicate l.toArray.size false) && decide (ps.length = l.toArray.size)) = true)
    (h : wpPlan P l.toArray (NoPanic Q) ps a w) : (Code.region id l.toArray true).wp P Q a w := by
  simp only [Bool.and_eq_true, decide_eq_true_eq] at hB
  obtain ⟨⟨hsel, hpl⟩, hlen⟩ := hB
  refine wp_region_noPanic (wp_region_any hm (wpU_any _ _ _ _ ?_))
  have H := wpU_plan (Q := NoPanic Q) hsel (fun _ _ _ h => h) ps _ _ w hpl h
  rw [hlen] at H
  exact wpU_up (upC_of (Below.refl _ w).drew) _ _ _ H

theorem plan_q {l : List Oper} {k : Nat} {ps : List (Nat × Bool)} {a : Act} {w : World} {o : Oper} (hk : l[k]? = some o)
    (h : wpQuiet P l.toArray (fun w' => ∃ x, w' = upTo w x) (fun a' => wpPlan P l.toArray Q ps a' w) [o] a) : wpPlan P l.toArray Q ((k, false) :: ps) a w := by
  unfold wpPlan qOp
  simp only [List.getElem?_toArray, hk]
  exact h
theorem plan_l {l : List Oper} {k : Nat} {ps : List (Nat × Bool)} {a : Act} {w : World} {o : Oper} (hk : l[k]? = some o) (hw : Region.wanted o (yielded l.toArray a.tmps) = true)
    (h : ∀ w', Below w.heap.size w w' → ∀ K : Act → World → Prop, (∀ a2 w2, Below w'.heap.size w' w2 → wpPlan P l.toArray Q ps a2 w2 → K a2 w2) → Oper.wp P o a w' K Q) : wpPlan P l.toArray Q ((k, true) :: ps) a w := by
  intro w' hw'
  unfold wpOp
  simp only [List.getElem?_toArray, hk, hw, if_true]
  exact .inl (h w' (upC_below hw') _ fun a2 w2 hb hp => ⟨upC_of hb, hp⟩)
theorem plan_s {l : List Oper} {k : Nat} {ps : List (Nat × Bool)} {a : Act} {w : World} {o : Oper} (hk : l[k]? = some o) (hw : Region.wanted o (yielded l.toArray a.tmps) = false)
    (h : ∀ w', Below w.heap.size w w' → wpPlan P l.toArray Q ps (a.put o.dst undef) w') : wpPlan P l.toArray Q ((k, true) :: ps) a w := by
  intro w' hw'
  unfold wpOp
  simp only [List.getElem?_toArray, hk, hw]
  exact ⟨upC_refl _, h w' (upC_below hw')⟩
theorem plan_nil {l : List Oper} {a : Act} {w : World} (h : ∀ w', Below w.heap.size w w' → Q .normal a w') : wpPlan P l.toArray Q [] a w := fun w' hw' => h w' (upC_below hw')
end
end Go.Proofs.Ytbmldiklgkojnaa
