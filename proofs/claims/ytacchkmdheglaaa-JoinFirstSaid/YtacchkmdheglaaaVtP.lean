/- Votes: as data, in memory, and what they come to; plain. -/
import Derived.Test.YtacchkmdheglaaaTeamQ
import Derived.Test.YtacchkmdheglaaaRdS
import Derived.Test.YtacchkmdheglaaaLogB
import Derived.Test.YtacchkmdheglaaaPutP
namespace Go.Proofs.Ytacchkmdheglaaa
open Go.RowKit
set_option linter.unusedVariables false

/-- a vote -/
structure Vt where
  frm : Int
  last : Int
  lg : List Ent
  com : Int
/-- a vote, and the slice that its log lies in -/
structure VtS where
  v : Vt
  s : Value
instance : Inhabited VtS := ⟨⟨⟨0, 0, [], 0⟩, .slice none 0 0⟩⟩

abbrev VtS.cells (x : VtS) : List Value := [.int .i64 x.v.frm, .int .i64 x.v.last, x.s, .int .i64 x.v.com]
abbrev Vt.val (x : Vt) (s : Value) : Value := .agg #[.int .i64 x.frm, .int .i64 x.last, s, .int .i64 x.com]

/-- a vote's cells lie at a place, and its log reads -/
def cVt (w : World) (b o : Nat) (x : VtS) : Prop :=
  w.cell? ⟨b, o, none⟩ = some (.int .i64 x.v.frm) ∧ w.cell? ⟨b, o + 1, none⟩ = some (.int .i64 x.v.last) ∧ w.cell? ⟨b, o + 2, none⟩ = some x.s ∧ w.cell? ⟨b, o + 3, none⟩ = some (.int .i64 x.v.com) ∧ rdE w x.s x.v.lg
theorem cVt.lt {w : World} {b o : Nat} {x : VtS} (h : cVt w b o x) : b < w.heap.size := cell_lt h.1
theorem cVt.grow (w w' : World) (b o : Nat) (x : VtS) (h : cVt w b o x) (hb : Below w.heap.size w w') : cVt w' b o x := by
  have hlt := h.lt
  obtain ⟨h1, h2, h3, h4, h5⟩ := h
  have k : ∀ o, w'.cell? ⟨b, o, none⟩ = w.cell? ⟨b, o, none⟩ := fun o => hb.cell hlt
  exact ⟨by rw [k]; exact h1, by rw [k]; exact h2, by rw [k]; exact h3, by rw [k]; exact h4, h5.grow hb⟩

def flatV (l : List VtS) : List Value := l.flatMap VtS.cells
theorem flatV_len (l : List VtS) : (flatV l).length = l.length * 4 := by
  induction l with
  | nil => rfl
  | cons x l ih => unfold flatV at ih ⊢; rw [List.flatMap_cons, List.length_append, ih]; simp; omega
theorem flatV_get (l : List VtS) (j : Nat) (h : j < l.length) (c : Nat) (hc : c < 4) : (flatV l)[j * 4 + c]? = (l[j].cells)[c]? := by
  induction l generalizing j with
  | nil => simp at h
  | cons x l ih =>
    unfold flatV at ih ⊢
    rw [List.flatMap_cons]
    cases j with
    | zero => rw [Nat.zero_mul, Nat.zero_add, List.getElem?_append_left (by simpa using hc)]; rfl
    | succ j =>
      rw [List.getElem?_append_right (by simp; omega), show (j + 1) * 4 + c - x.cells.length = j * 4 + c by simp; omega, ih j (by simpa using h)]
      rfl
theorem flatV_snoc (l : List VtS) (x : VtS) : flatV (l ++ [x]) = flatV l ++ x.cells := by
  unfold flatV; rw [List.flatMap_append]; simp

/-- gathered votes, as they read -/
def rdVs (w : World) (b : Nat) (view n : Int) (l : List VtS) : Prop :=
  w.cell? ⟨b, 0, none⟩ = some (.int .i64 view) ∧ w.cell? ⟨b, 1, none⟩ = some (.int .i64 n) ∧ ∃ v, w.cell? ⟨b, 2, none⟩ = some v ∧ rdS 4 cVt w v l
theorem rdVs.lt {w : World} {b : Nat} {view n : Int} {l : List VtS} (h : rdVs w b view n l) : b < w.heap.size := cell_lt h.1
theorem rdVs.grow {w w' : World} {b : Nat} {view n : Int} {l : List VtS} (h : rdVs w b view n l) (hb : Below w.heap.size w w') : rdVs w' b view n l := by
  have hlt := h.lt
  obtain ⟨h1, h2, v, h3, h4⟩ := h
  have k : ∀ o, w'.cell? ⟨b, o, none⟩ = w.cell? ⟨b, o, none⟩ := fun o => hb.cell hlt
  exact ⟨by rw [k]; exact h1, by rw [k]; exact h2, v, by rw [k]; exact h3, h4.grow cVt.grow hb⟩

/-- gathered votes, owned: their blocks in F, their logs' in D -/
def vtO (T TV : TypeId) (w : World) (F D : Nat → Prop) (b : Nat) (view n : Int) (l : List VtS) : Prop :=
  F b ∧ (∀ k, F k → ¬ D k) ∧ ∃ v, w.heap[b]? = some (.cells #[.int .i64 view, .int .i64 n, v] T (0, 0)) ∧ w.ownsRow 0 TV 4 v l.length (flatV l) ∧ (∀ k, v.ownBlock = some k → F k) ∧ ∀ x ∈ l, rdE w x.s x.v.lg ∧ ∀ k, x.s.ownBlock = some k → D k

theorem cVt_row {w : World} {TV : TypeId} {g : Nat} {cur : Array Value} {l : List VtS} (hg : w.heap[g]? = some (.cells cur TV (0, 0))) (ht : cur.toList.take (l.length * 4) = flatV l)
    (hr : ∀ x ∈ l, rdE w x.s x.v.lg) (j : Nat) (hj : j < l.length) : cVt w g (0 + j * 4) l[j] := by
  have key : ∀ c u, c < 4 → (l[j].cells)[c]? = some u → w.cell? ⟨g, 0 + j * 4 + c, none⟩ = some u := by
    intro c u hc hu
    have h1 : (cur.toList.take (l.length * 4))[j * 4 + c]? = some u := by rw [ht, flatV_get l j hj c hc]; exact hu
    rw [List.getElem?_take] at h1
    split at h1
    · simp [World.cell?, hg] at h1 ⊢
      simpa using h1
    · cases h1
  exact ⟨key 0 _ (by omega) rfl, key 1 _ (by omega) rfl, key 2 _ (by omega) rfl, key 3 _ (by omega) rfl, hr _ (List.getElem_mem hj)⟩
theorem vtO.rd {T TV : TypeId} {w : World} {F D : Nat → Prop} {b : Nat} {view n : Int} {l : List VtS} (h : vtO T TV w F D b view n l) : rdVs w b view n l := by
  obtain ⟨_, _, v, hb, ho, _, hr⟩ := h
  refine ⟨by simp [World.cell?, hb], by simp [World.cell?, hb], v, by simp [World.cell?, hb], ?_⟩
  obtain ⟨hl, ⟨rfl, h0⟩ | ⟨g, cap, cur, rfl, hbb, hg, hn, hc, hs, ht⟩⟩ := ho
  · exact ⟨none, 0, by rw [h0], by rw [h0]; exact Nat.zero_le _, Nat.zero_le _, fun h => by omega⟩
  · exact ⟨some ⟨g, 0, none⟩, cap, rfl, hn, hc, fun _ => ⟨g, 0, rfl, fun j hj => cVt_row hg ht (fun x hx => (hr x hx).1) j hj⟩⟩
theorem vtO.grow {T TV : TypeId} {w w' : World} {F D : Nat → Prop} {b : Nat} {view n : Int} {l : List VtS} (h : vtO T TV w F D b view n l) (hb : Below w.heap.size w w') : vtO T TV w' F D b view n l := by
  obtain ⟨h1, h2, v, h3, h4, h5, h6⟩ := h
  refine ⟨h1, h2, v, by rw [hb.block b (heap_lt h3)]; exact h3, ?_, h5, fun x hx => ⟨(h6 x hx).1.grow hb, (h6 x hx).2⟩⟩
  obtain ⟨a1, a2⟩ := h4
  refine ⟨a1, a2.imp id ?_⟩
  rintro ⟨g, cap, cur, e1, e2, e3, e4⟩
  exact ⟨g, cap, cur, e1, e2, by rw [hb.block g (heap_lt e3)]; exact e3, e4⟩
theorem vtO.chg {T TV : TypeId} {w w' : World} {F D G : Nat → Prop} {b : Nat} {view n : Int} {l : List VtS} (h : vtO T TV w F D b view n l) (hc : Chg G w w') (hF : ∀ k, F k → ¬ G k) (hD : ∀ k, D k → ¬ G k) : vtO T TV w' F D b view n l := by
  obtain ⟨h1, h2, v, h3, h4, h5, h6⟩ := h
  refine ⟨h1, h2, v, by rw [hc.block b (heap_lt h3) (hF b h1)]; exact h3, ?_, h5, fun x hx => ⟨(h6 x hx).1.chg hc fun k hk => hD k ((h6 x hx).2 k hk), (h6 x hx).2⟩⟩
  obtain ⟨a1, a2⟩ := h4
  refine ⟨a1, a2.imp id ?_⟩
  rintro ⟨g, cap, cur, e1, e2, e3, e4⟩
  exact ⟨g, cap, cur, e1, e2, by rw [hc.block g (heap_lt e3) (hF g (h5 g (by rw [e1]; rfl)))]; exact e3, e4⟩

/-! what votes come to -/
def teamV (l : List VtS) : Nat := (l.map fun x => x.v.frm).foldl withT 0
theorem teamV_lt (l : List VtS) : teamV l < 128 := foldl_lt _ 0 (by omega)
theorem teamV_snoc (l : List VtS) (x : VtS) : teamV (l ++ [x]) = withT (teamV l) x.v.frm := by unfold teamV; rw [List.map_append, List.foldl_append]; rfl
theorem teamV_take (l : List VtS) (k : Nat) (h : k < l.length) : teamV (l.take (k + 1)) = withT (teamV (l.take k)) l[k].v.frm := by
  rw [List.take_succ_eq_append_getElem h, teamV_snoc]
def betterV (a b : Vt) : Bool := if a.last != b.last then decide (b.last < a.last) else if a.lg.length != b.lg.length then decide (b.lg.length < a.lg.length) else decide (a.frm < b.frm)
def okV (view n : Int) (l : List VtS) (x : Vt) : Bool :=
  decide (1 ≤ x.frm) && decide (x.frm ≤ n) && !hasT (teamV l) x.frm && decide (0 ≤ x.last) && decide (x.last < view) && decide ((logE x.lg).length = x.lg.length) && decide (0 ≤ x.com) && decide (x.com ≤ (x.lg.length : Int))
/-- the best one so far, and the greatest commit -/
def bestTo (b : VtS) (l : List VtS) : VtS := l.foldl (fun b x => if betterV x.v b.v then x else b) b
def comTo (l : List VtS) : Int := l.foldl (fun c x => max c x.v.com) 0
theorem bestTo_take (b : VtS) (l : List VtS) (k : Nat) (h : k < l.length) : bestTo b (l.take (k + 1)) = if betterV l[k].v (bestTo b (l.take k)).v then l[k] else bestTo b (l.take k) := by
  unfold bestTo; rw [List.take_succ_eq_append_getElem h, List.foldl_append]; rfl
theorem comTo_take (l : List VtS) (k : Nat) (h : k < l.length) : comTo (l.take (k + 1)) = max (comTo (l.take k)) l[k].v.com := by
  unfold comTo; rw [List.take_succ_eq_append_getElem h, List.foldl_append]; rfl
theorem bestTo_mem (b : VtS) (l : List VtS) (P : VtS → Prop) (hb : P b) (hl : ∀ x ∈ l, P x) : P (bestTo b l) := by
  induction l generalizing b with
  | nil => exact hb
  | cons x l ih =>
    unfold bestTo at ih ⊢
    rw [List.foldl_cons]
    refine ih _ ?_ fun y hy => hl y (List.mem_cons_of_mem _ hy)
    split
    · exact hl x List.mem_cons_self
    · exact hb
end Go.Proofs.Ytacchkmdheglaaa
