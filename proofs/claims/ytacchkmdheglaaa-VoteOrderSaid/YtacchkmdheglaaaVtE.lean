/- What stands behind votes that were gathered; the first try. -/
import Derived.Test.YtacchkmdheglaaaVtD
import Derived.Test.YtacchkmdheglaaaVtR
import Derived.Test.YtacchkmdheglaaaPlanC
namespace Go.Proofs.Ytacchkmdheglaaa
open Go.RowKit
set_option linter.unusedVariables false

/-- votes in new memory; A: blocks that are not theirs -/
def VSt (T TV : TypeId) (A : Nat → Prop) (w wr : World) (b : Nat) (view n : Int) (l : List VtS) : Prop :=
  ∃ F D : Nat → Prop, (∀ k, F k ∨ D k → w.heap.size ≤ k ∧ k < wr.heap.size) ∧ (∀ k, A k → ¬ F k ∧ k < wr.heap.size) ∧ vtO T TV wr F D b view n l
/-- what is left of it when votes turn -/
abbrev Rest (A : Nat → Prop) (w : World) : Nat → Prop := fun k => w.heap.size ≤ k ∧ ¬ A k
theorem VSt.grow {T TV : TypeId} {A : Nat → Prop} {w wr w' : World} {b : Nat} {view n : Int} {l : List VtS} (h : VSt T TV A w wr b view n l) (hb : Below wr.heap.size wr w') : VSt T TV A w w' b view n l := by
  obtain ⟨F, D, h1, h3, h2⟩ := h
  exact ⟨F, D, fun k hk => ⟨(h1 k hk).1, Nat.lt_of_lt_of_le (h1 k hk).2 hb.size⟩, fun k hk => ⟨(h3 k hk).1, Nat.lt_of_lt_of_le (h3 k hk).2 hb.size⟩, h2.grow hb⟩
theorem VSt.more {T TV : TypeId} {A : Nat → Prop} {w wr w' : World} {b : Nat} {view n : Int} {l : List VtS} (h : VSt T TV A w wr b view n l) (hb : Below wr.heap.size wr w') : VSt T TV (fun k => A k ∨ (wr.heap.size ≤ k ∧ k < w'.heap.size)) w w' b view n l := by
  obtain ⟨F, D, h1, h3, h2⟩ := h
  refine ⟨F, D, fun k hk => ⟨(h1 k hk).1, Nat.lt_of_lt_of_le (h1 k hk).2 hb.size⟩, fun k hk => ?_, h2.grow hb⟩
  rcases hk with hk | hk
  · exact ⟨(h3 k hk).1, Nat.lt_of_lt_of_le (h3 k hk).2 hb.size⟩
  · exact ⟨fun f => by have := (h1 k (.inl f)).2; omega, hk.2⟩
theorem VSt.less {T TV : TypeId} {A A' : Nat → Prop} {w wr : World} {b : Nat} {view n : Int} {l : List VtS} (h : VSt T TV A w wr b view n l) (hA : ∀ k, A' k → A k) : VSt T TV A' w wr b view n l := by
  obtain ⟨F, D, h1, h3, h2⟩ := h
  exact ⟨F, D, h1, fun k hk => h3 k (hA k hk), h2⟩
theorem VSt.rd {T TV : TypeId} {A : Nat → Prop} {w wr : World} {b : Nat} {view n : Int} {l : List VtS} (h : VSt T TV A w wr b view n l) : rdVs wr b view n l := by
  obtain ⟨F, D, _, _, h2⟩ := h; exact h2.rd
/-- an Add, in new memory -/
theorem VSt.added {T TV : TypeId} {A : Nat → Prop} {w wr w' : World} {F D : Nat → Prop} {b : Nat} {view n : Int} {l : List VtS} {x : Vt} {ok : Bool} (hFD : ∀ k, F k ∨ D k → w.heap.size ≤ k ∧ k < wr.heap.size) (hA : ∀ k, A k → ¬ F k ∧ k < wr.heap.size) (hv : vtO T TV wr F D b view n l)
    (hw : w.heap.size ≤ wr.heap.size) (h : VAdded T TV wr w' F D (fun _ => False) b view n l x ok) :
    ∃ l', VSt T TV A w w' b view n l' ∧ (l'.map fun y => y.v) = (l.map fun y => y.v) ++ (if ok then [x] else []) ∧ Chg (Rest A w) wr w' := by
  cases ok
  · rw [VAdded, if_neg Bool.false_ne_true] at h
    exact ⟨l, VSt.grow ⟨F, D, hFD, hA, hv⟩ h, by simp, .of_below h⟩
  · rw [VAdded, if_pos rfl] at h
    obtain ⟨s', F', D', h1, h2, h3, h4⟩ := h
    have hs := h4.size
    refine ⟨l ++ [⟨x, s'⟩], ⟨F', D', ?_, fun k hk => ⟨fun f => ?_, by have := (hA k hk).2; omega⟩, h1⟩, by simp, h4.mono fun k hk f => ⟨(hFD k (.inl f)).1, fun a => (hA k a).1 f⟩⟩
    · rintro k (hk | hk)
      · rcases h2 k hk with f | f
        · have := hFD k (.inl f); exact ⟨this.1, by omega⟩
        · exact ⟨by omega, f.2⟩
      · rcases h3 k hk with f | f | f
        · have := hFD k (.inr f); exact ⟨this.1, by omega⟩
        · exact ⟨by omega, f.2⟩
        · exact f.elim
    · rcases h2 k f with f | f
      · exact (hA k hk).1 f
      · have := (hA k hk).2; omega

/-- an Add by the program, in new memory -/
theorem vAdd_st (b : Nat) (view n : Int) (l : List VtS) (x : Vt) (s : Value) (A : Nat → Prop) (w0 w : World) (hr : VSt 78 47 A w0 w b view n l) (hw : w0.heap.size ≤ w.heap.size) (hs : rdE w s x.lg) (hl : l.length ≤ 100) :
    Calls Try.prog 22 #[.pointer (some ⟨b, 0, none⟩), x.val s] w fun r w' => r = .returned (.bool (okV view n l x)) ∧
      ∃ l', VSt 78 47 A w0 w' b view n l' ∧ (l'.map fun y => y.v) = (l.map fun y => y.v) ++ (if okV view n l x then [x] else []) ∧ Chg (Rest A w0) w w' := by
  obtain ⟨F, D, h1, h3, h2⟩ := hr
  refine (vAdd_any b view n l x s F D w h2 (fun k hk => (h1 k hk).2) hs hl).mono ?_
  rintro r w' ⟨rfl, h⟩
  exact ⟨rfl, VSt.added h1 h3 h2 hw h⟩
theorem vNew_st (view n : Int) (w : World) (h0 : -9223372036854775808 ≤ view) (h1 : view ≤ 9223372036854775807) (hd : decT view n ≠ 0) :
    Calls Try.prog 20 #[.int .i64 view, .int .i64 n] w fun r w' => ∃ b, r = .returned (.pointer (some ⟨b, 0, none⟩)) ∧ VSt 78 47 (fun k => k < w.heap.size) w w' b view n [] ∧ Below w.heap.size w w' := by
  refine (vNew_any view n w h0 h1).mono ?_
  rintro r w' (⟨h, _⟩ | ⟨_, rfl, hv, rfl⟩)
  · exact absurd h hd
  · refine ⟨_, rfl, ⟨_, _, ?_, ?_, hv⟩, (Below.refl _ _).alloc (Nat.le_refl _) _⟩
    · rintro k (rfl | h)
      · exact ⟨Nat.le_refl _, by simp⟩
      · exact h.elim
    · intro k hk
      exact ⟨fun e => by omega, by simp; omega⟩
theorem at_chg {F : Nat → Prop} {w w' : World} {k : Nat} {x : Obj} (h : w.heap[k]? = some x) (hc : Chg F w w') (hk : ¬ F k) : w'.heap[k]? = some x := by
  rw [hc.block k (at_lt h) hk]; exact h

/-! what votes come to depends on the votes alone -/
theorem map_len {l m : List VtS} (h : (l.map fun y => y.v) = m.map fun y => y.v) : l.length = m.length := by
  have := congrArg List.length h; simpa using this
theorem teamV_congr {l m : List VtS} (h : (l.map fun y => y.v) = m.map fun y => y.v) : teamV l = teamV m := by
  have e : ∀ l : List VtS, (l.map fun x => x.v.frm) = (l.map fun y => y.v).map fun v => v.frm := fun l => by rw [List.map_map]; rfl
  unfold teamV; rw [e, e, h]
theorem okV_congr {l m : List VtS} (h : (l.map fun y => y.v) = m.map fun y => y.v) (view n : Int) (x : Vt) : okV view n l x = okV view n m x := by
  unfold okV; rw [teamV_congr h]
theorem comTo_congr {l m : List VtS} (h : (l.map fun y => y.v) = m.map fun y => y.v) : comTo l = comTo m := by
  have e : ∀ (l : List VtS) (c : Int), l.foldl (fun c x => max c x.v.com) c = (l.map fun y => y.v).foldl (fun c v => max c v.com) c := fun l c => by rw [List.foldl_map]
  unfold comTo; rw [e, e, h]
theorem bestTo_congr {l m : List VtS} {a b : VtS} (hab : a.v = b.v) (h : (l.map fun y => y.v) = m.map fun y => y.v) : (bestTo a l).v = (bestTo b m).v := by
  induction l generalizing m a b with
  | nil => cases m with
    | nil => exact hab
    | cons y m => simp at h
  | cons x l ih => cases m with
    | nil => simp at h
    | cons y m =>
      simp only [List.map_cons, List.cons.injEq] at h
      obtain ⟨h1, h2⟩ := h
      unfold bestTo at ih ⊢
      rw [List.foldl_cons, List.foldl_cons]
      refine ih ?_ h2
      rw [h1, hab]
      split
      · exact h1
      · exact hab
theorem goodV_congr {l m : List VtS} (h : (l.map fun y => y.v) = m.map fun y => y.v) (hg : goodV l) : goodV m := by
  intro k hk
  have hl := map_len h
  have hkl : k < l.length := by omega
  have e : l[k].v = m[k].v := by
    have := congrArg (fun z => z[k]?) h
    simpa [hkl, hk] using this
  have et : ((l.take k).map fun y => y.v) = (m.take k).map fun y => y.v := by rw [List.map_take, List.map_take, h]
  have := hg k hkl
  rw [e, teamV_congr et] at this
  exact this

abbrev eC : Ent := ⟨1, 1, 1, 0, 0, 0, ⟨#[]⟩⟩
theorem b20_ok1 : okV 5 3 [] ⟨2, 3, [], 0⟩ = true := by kernel_rfl
theorem b20_ok2 (s : Value) : okV 5 3 [⟨⟨2, 3, [], 0⟩, s⟩] ⟨1, 4, [eC], 1⟩ = true := by kernel_rfl
theorem b20_ok3 (s t : Value) : okV 5 3 [⟨⟨2, 3, [], 0⟩, s⟩, ⟨⟨1, 4, [eC], 1⟩, t⟩] ⟨1, 4, [], 0⟩ = false := by kernel_rfl
theorem b20_m1 (s : Value) : mostT (teamV [⟨⟨2, 3, [], 0⟩, s⟩] : Nat) 3 = false := by kernel_rfl
theorem b20_t2 (s t : Value) : teamV [⟨⟨2, 3, [], 0⟩, s⟩, ⟨⟨1, 4, [eC], 1⟩, t⟩] = 3 := by kernel_rfl
theorem b20_m2 : mostT 3 3 = true := by kernel_rfl
theorem b20_b2 (s t : Value) : bestTo ⟨⟨2, 3, [], 0⟩, s⟩ [⟨⟨2, 3, [], 0⟩, s⟩, ⟨⟨1, 4, [eC], 1⟩, t⟩] = ⟨⟨1, 4, [eC], 1⟩, t⟩ := by kernel_rfl
theorem b20_c2 (s t : Value) : comTo [⟨⟨2, 3, [], 0⟩, s⟩, ⟨⟨1, 4, [eC], 1⟩, t⟩] = 1 := by kernel_rfl
theorem map_one {l : List VtS} {x : Vt} (h : (l.map fun y => y.v) = [x]) : ∃ s, l = [⟨x, s⟩] := by
  match l, h with
  | [y], h => simp at h; exact ⟨y.s, by rw [← h]⟩
theorem map_two {l : List VtS} {x z : Vt} (h : (l.map fun y => y.v) = [x, z]) : ∃ s t, l = [⟨x, s⟩, ⟨z, t⟩] := by
  match l, h with
  | [y, u], h => simp at h; exact ⟨y.s, u.s, by rw [← h.1, ← h.2]⟩
end Go.Proofs.Ytacchkmdheglaaa
