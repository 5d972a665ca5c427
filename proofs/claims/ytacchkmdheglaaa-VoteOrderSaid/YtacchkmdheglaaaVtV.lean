/- Two gatherings of votes, apart. -/
import Derived.Test.YtacchkmdheglaaaVtG
namespace Go.Proofs.Ytacchkmdheglaaa
open Go.RowKit
set_option linter.unusedVariables false

/-- the program's votes and the reference's, apart; A: blocks that are neither's -/
def VV (T TV U TU : TypeId) (A : Nat → Prop) (w wr : World) (b1 b2 : Nat) (view n : Int) (lp lr : List VtS) : Prop :=
  ∃ F1 D1 F2 D2 : Nat → Prop, (∀ k, F1 k ∨ D1 k ∨ F2 k ∨ D2 k → w.heap.size ≤ k ∧ k < wr.heap.size) ∧ (∀ k, F1 k → ¬ F2 k ∧ ¬ D2 k) ∧ (∀ k, F2 k → ¬ D1 k) ∧ (∀ k, A k → ¬ F1 k ∧ ¬ F2 k ∧ w.heap.size ≤ k ∧ k < wr.heap.size) ∧
    vtO T TV wr F1 D1 b1 view n lp ∧ vtO U TU wr F2 D2 b2 view n lr
theorem VV.grow {T TV U TU : TypeId} {A : Nat → Prop} {w wr w' : World} {b1 b2 : Nat} {view n : Int} {lp lr : List VtS} (h : VV T TV U TU A w wr b1 b2 view n lp lr) (hb : Below wr.heap.size wr w') : VV T TV U TU A w w' b1 b2 view n lp lr := by
  obtain ⟨F1, D1, F2, D2, h1, h2, h3, hA, h4, h5⟩ := h
  exact ⟨F1, D1, F2, D2, fun k hk => ⟨(h1 k hk).1, Nat.lt_of_lt_of_le (h1 k hk).2 hb.size⟩, h2, h3, fun k hk => ⟨(hA k hk).1, (hA k hk).2.1, (hA k hk).2.2.1, Nat.lt_of_lt_of_le (hA k hk).2.2.2 hb.size⟩, h4.grow hb, h5.grow hb⟩
theorem VV.more {T TV U TU : TypeId} {A : Nat → Prop} {w wr w' : World} {b1 b2 : Nat} {view n : Int} {lp lr : List VtS} (h : VV T TV U TU A w wr b1 b2 view n lp lr) (hb : Below wr.heap.size wr w') (hw : w.heap.size ≤ wr.heap.size) :
    VV T TV U TU (fun k => wr.heap.size ≤ k ∧ k < w'.heap.size) w w' b1 b2 view n lp lr := by
  obtain ⟨F1, D1, F2, D2, h1, h2, h3, hA, h4, h5⟩ := h
  refine ⟨F1, D1, F2, D2, fun k hk => ⟨(h1 k hk).1, Nat.lt_of_lt_of_le (h1 k hk).2 hb.size⟩, h2, h3, fun k hk => ⟨fun f => ?_, fun f => ?_, by omega, hk.2⟩, h4.grow hb, h5.grow hb⟩
  · have := (h1 k (.inl f)).2; omega
  · have := (h1 k (.inr (.inr (.inl f)))).2; omega
theorem VV.none {T TV U TU : TypeId} {A : Nat → Prop} {w wr : World} {b1 b2 : Nat} {view n : Int} {lp lr : List VtS} (h : VV T TV U TU A w wr b1 b2 view n lp lr) : VV T TV U TU (fun _ => False) w wr b1 b2 view n lp lr := by
  obtain ⟨F1, D1, F2, D2, h1, h2, h3, hA, h4, h5⟩ := h
  exact ⟨F1, D1, F2, D2, h1, h2, h3, fun k hk => hk.elim, h4, h5⟩
theorem VV.rd1 {T TV U TU : TypeId} {A : Nat → Prop} {w wr : World} {b1 b2 : Nat} {view n : Int} {lp lr : List VtS} (h : VV T TV U TU A w wr b1 b2 view n lp lr) : rdVs wr b1 view n lp := by
  obtain ⟨F1, D1, F2, D2, h1, h2, h3, hA, h4, h5⟩ := h; exact h4.rd
theorem VV.rd2 {T TV U TU : TypeId} {A : Nat → Prop} {w wr : World} {b1 b2 : Nat} {view n : Int} {lp lr : List VtS} (h : VV T TV U TU A w wr b1 b2 view n lp lr) : rdVs wr b2 view n lr := by
  obtain ⟨F1, D1, F2, D2, h1, h2, h3, hA, h4, h5⟩ := h; exact h5.rd

theorem VV.swap {T TV U TU : TypeId} {A : Nat → Prop} {w wr : World} {b1 b2 : Nat} {view n : Int} {lp lr : List VtS} (h : VV T TV U TU A w wr b1 b2 view n lp lr) : VV U TU T TV A w wr b2 b1 view n lr lp := by
  obtain ⟨F1, D1, F2, D2, h1, h2, h3, hA, h4, h5⟩ := h
  exact ⟨F2, D2, F1, D1, fun k hk => h1 k (by rcases hk with h | h | h | h <;> simp [h]), fun k hk => ⟨fun f => (h2 k f).1 hk, h3 k hk⟩, fun k hk d => (h2 k hk).2 d, fun k hk => ⟨(hA k hk).2.1, (hA k hk).1, (hA k hk).2.2⟩, h5, h4⟩
/-- an Add, said alike for both kinds -/
theorem added_any {T TV : TypeId} {w w' : World} {F D E : Nat → Prop} {b : Nat} {view n : Int} {l : List VtS} {x : Vt} {ok : Bool} (hv : vtO T TV w F D b view n l) (h : VAdded T TV w w' F D E b view n l x ok) :
    ∃ l' F' D', vtO T TV w' F' D' b view n l' ∧ (l'.map fun y => y.v) = (l.map fun y => y.v) ++ (if ok then [x] else []) ∧ (∀ k, F' k → F k ∨ (w.heap.size ≤ k ∧ k < w'.heap.size)) ∧ (∀ k, D' k → D k ∨ (w.heap.size ≤ k ∧ k < w'.heap.size) ∨ (ok = true ∧ E k)) ∧ Chg F w w' := by
  cases ok
  · rw [VAdded, if_neg Bool.false_ne_true] at h
    exact ⟨l, F, D, hv.grow h, by simp, fun k hk => .inl hk, fun k hk => .inl hk, .of_below h⟩
  · rw [VAdded, if_pos rfl] at h
    obtain ⟨s', F', D', h1, h2, h3, h4⟩ := h
    exact ⟨_, F', D', h1, by simp, h2, fun k hk => (h3 k hk).imp id (Or.imp id fun e => ⟨rfl, e⟩), h4⟩

/-- the program's Add -/
theorem vAdd_v2 {U TU : TypeId} {A : Nat → Prop} {w y : World} {b1 b2 : Nat} {view n : Int} {lp lr : List VtS} (hV : VV 78 47 U TU A w y b1 b2 view n lp lr) (hw : w.heap.size ≤ y.heap.size) (x : Vt) (s : Value) (hs : rdE y s x.lg) (hl : lp.length ≤ 100) :
    Calls Try.prog 22 #[.pointer (some ⟨b1, 0, none⟩), x.val s] y fun r y' => r = .returned (.bool (okV view n lp x)) ∧
      ∃ lp', VV 78 47 U TU A w y' b1 b2 view n lp' lr ∧ (lp'.map fun y => y.v) = (lp.map fun y => y.v) ++ (if okV view n lp x then [x] else []) ∧ Chg (Rest A w) y y' := by
  obtain ⟨F1, D1, F2, D2, h1, h2, h3, hA, h4, h5⟩ := hV
  refine (vAdd_any b1 view n lp x s F1 D1 y h4 (fun k hk => (h1 k (hk.elim .inl fun d => .inr (.inl d))).2) hs hl).mono ?_
  rintro r y' ⟨rfl, h⟩
  obtain ⟨lp', F', D', g1, g2, g3, g4, g5⟩ := added_any h4 h
  have hsz := g5.size
  have a1 := fun k hk => h1 k (.inl hk)
  have a2 := fun k hk => h1 k (.inr (.inl hk))
  have a3 := fun k hk => h1 k (.inr (.inr (.inl hk)))
  have a4 := fun k hk => h1 k (.inr (.inr (.inr hk)))
  refine ⟨rfl, lp', ⟨F', D', F2, D2, ?_, ?_, ?_, ?_, g1, h5.chg g5 (fun k hk f => (h2 k f).1 hk) (fun k hk f => (h2 k f).2 hk)⟩, g2, g5.mono fun k hk f => ⟨(a1 k f).1, fun a => (hA k a).1 f⟩⟩
  · rintro k (hk | hk | hk | hk)
    · rcases g3 k hk with f | f
      · have := a1 k f; omega
      · omega
    · rcases g4 k hk with f | f | f
      · have := a2 k f; omega
      · omega
      · exact f.2.elim
    · have := a3 k hk; omega
    · have := a4 k hk; omega
  · intro k hk
    rcases g3 k hk with f | f
    · exact h2 k f
    · exact ⟨fun g => by have := a3 k g; omega, fun g => by have := a4 k g; omega⟩
  · intro k hk g
    rcases g4 k g with g | g | g
    · exact h3 k hk g
    · have := a3 k hk; omega
    · exact g.2.elim
  · intro k hk
    obtain ⟨q1, q2, q3, q4⟩ := hA k hk
    refine ⟨fun f => ?_, q2, q3, by omega⟩
    rcases g3 k f with f | f
    · exact q1 f
    · omega
theorem sixty_after {view n : Int} {l l' : List VtS} {x : Vt} (hl : ∀ y ∈ l, y.v.lg.length ≤ 60) (hx : x.lg.length ≤ 60) (h : (l'.map fun y => y.v) = (l.map fun y => y.v) ++ (if okV view n l x then [x] else [])) : ∀ y ∈ l', y.v.lg.length ≤ 60 := by
  intro y hy
  have : y.v ∈ l'.map fun y => y.v := List.mem_map_of_mem hy
  rw [h, List.mem_append] at this
  rcases this with h1 | h1
  · obtain ⟨z, hz, e⟩ := List.mem_map.1 h1
    rw [← e]; exact hl z hz
  · split at h1
    · rw [List.mem_singleton] at h1; rw [h1]; exact hx
    · cases h1
theorem len_after {view n : Int} {l l' : List VtS} {x : Vt} {k : Nat} (hl : l.length ≤ k) (h : (l'.map fun y => y.v) = (l.map fun y => y.v) ++ (if okV view n l x then [x] else [])) : l'.length ≤ k + 1 := by
  have := congrArg List.length h
  rw [List.length_append, List.length_map, List.length_map] at this
  split at this <;> simp at this <;> omega
theorem good_after {view n : Int} {l l' : List VtS} {x : Vt} (hg : goodV l) (hn : n ≤ 7) (h : (l'.map fun y => y.v) = (l.map fun y => y.v) ++ (if okV view n l x then [x] else [])) : goodV l' := by
  cases ho : okV view n l x
  · rw [ho] at h
    exact goodV_congr (by simpa using h.symm) hg
  · rw [ho] at h
    unfold okV at ho
    simp only [Bool.and_eq_true, decide_eq_true_eq, Bool.not_eq_true'] at ho
    refine goodV_congr (l := l ++ [⟨x, .slice none 0 0⟩]) (by simpa using h.symm) (goodV_snoc hg ?_ ?_ ?_)
    · exact ho.1.1.1.1.1.1.1
    · have := ho.1.1.1.1.1.1.2; exact Int.le_trans this hn
    · exact ho.1.1.1.1.1.2

end Go.Proofs.Ytacchkmdheglaaa
