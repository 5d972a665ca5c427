/- The order of votes says nothing; plain. -/
import Derived.Test.YtacchkmdheglaaaVtG
import Derived.Test.YtacchkmdheglaaaVtS
namespace Go.Proofs.Ytacchkmdheglaaa
open Go.RowKit
set_option linter.unusedVariables false

def bestL (b : Vt) (L : List Vt) : Vt := L.foldl (fun b x => if betterV x b then x else b) b
theorem bestTo_L (y : VtS) (l : List VtS) : (bestTo y l).v = bestL y.v (l.map fun x => x.v) := by
  induction l generalizing y with
  | nil => rfl
  | cons x l ih =>
    unfold bestTo bestL at ih ⊢
    rw [List.foldl_cons, List.map_cons, List.foldl_cons, ih]
    congr 1
    split <;> rfl
theorem better_iff (a b : Vt) : betterV a b = true ↔ b.last < a.last ∨ (a.last = b.last ∧ b.lg.length < a.lg.length) ∨ (a.last = b.last ∧ a.lg.length = b.lg.length ∧ a.frm < b.frm) := by
  rcases better_cases a b with ⟨h1, h2⟩ | ⟨h1, h2⟩ | ⟨h1, h2, h3⟩ | ⟨h1, h2, h3⟩ | ⟨h1, h2, h3⟩
  · rw [h2]; simp; omega
  · rw [h2]; simp; omega
  · rw [h3]; simp; omega
  · rw [h3]; simp; omega
  · rw [h3]; simp; omega
theorem better_not (a b : Vt) : betterV a b = false ↔ ¬ (b.last < a.last ∨ (a.last = b.last ∧ b.lg.length < a.lg.length) ∨ (a.last = b.last ∧ a.lg.length = b.lg.length ∧ a.frm < b.frm)) := by
  rw [← better_iff]; simp
theorem bestL_mem (b : Vt) (L : List Vt) : bestL b L = b ∨ bestL b L ∈ L := by
  induction L generalizing b with
  | nil => exact .inl rfl
  | cons x L ih =>
    unfold bestL at ih ⊢
    rw [List.foldl_cons]
    split
    · rcases ih x with h | h
      · exact .inr (by rw [h]; exact List.mem_cons_self)
      · exact .inr (List.mem_cons_of_mem _ h)
    · rcases ih b with h | h
      · exact .inl h
      · exact .inr (List.mem_cons_of_mem _ h)
theorem bestL_max (b : Vt) (L : List Vt) : betterV b (bestL b L) = false ∧ ∀ x ∈ L, betterV x (bestL b L) = false := by
  induction L generalizing b with
  | nil => exact ⟨by show betterV b b = false; rw [better_not]; omega, fun x hx => by cases hx⟩
  | cons x L ih =>
    unfold bestL at ih ⊢
    rw [List.foldl_cons]
    by_cases h : betterV x b = true
    · rw [if_pos h]
      obtain ⟨h1, h2⟩ := ih x
      refine ⟨?_, fun z hz => ?_⟩
      · rw [better_iff] at h
        rw [better_not] at h1 ⊢
        omega
      · rcases List.mem_cons.1 hz with rfl | hz
        · exact h1
        · exact h2 z hz
    · rw [if_neg h]
      obtain ⟨h1, h2⟩ := ih b
      have h' : betterV x b = false := by simpa using h
      refine ⟨h1, fun z hz => ?_⟩
      rcases List.mem_cons.1 hz with rfl | hz
      · rw [better_not] at h1 h' ⊢
        omega
      · exact h2 z hz
theorem nodup_inj {L : List Vt} (hd : (L.map fun x => x.frm).Nodup) {x y : Vt} (hx : x ∈ L) (hy : y ∈ L) (h : x.frm = y.frm) : x = y := by
  induction L with
  | nil => cases hx
  | cons a L ih =>
    rw [List.map_cons, List.nodup_cons] at hd
    rcases List.mem_cons.1 hx with e1 | h1
    · rcases List.mem_cons.1 hy with e2 | h2
      · rw [e1, e2]
      · exact absurd (List.mem_map.2 ⟨y, h2, by rw [← h, e1]⟩) hd.1
    · rcases List.mem_cons.1 hy with e2 | h2
      · exact absurd (List.mem_map.2 ⟨x, h1, by rw [h, e2]⟩) hd.1
      · exact ih hd.2 h1 h2
theorem best_perm {L M : List Vt} (hd : (L.map fun x => x.frm).Nodup) (hp : L.Perm M) {x y : Vt} (hx : x ∈ L) (hy : y ∈ M) : bestL x L = bestL y M := by
  have hr1 : bestL x L ∈ L := (bestL_mem x L).elim (fun h => by rw [h]; exact hx) id
  have hr2 : bestL y M ∈ M := (bestL_mem y M).elim (fun h => by rw [h]; exact hy) id
  have h1 := (bestL_max x L).2 _ (hp.mem_iff.2 hr2)
  have h2 := (bestL_max y M).2 _ (hp.mem_iff.1 hr1)
  refine nodup_inj hd hr1 (hp.mem_iff.2 hr2) ?_
  rw [better_not] at h1 h2
  omega
theorem team_perm {L M : List Int} (hp : L.Perm M) : L.foldl withT 0 = M.foldl withT 0 := by
  refine team_ext (foldl_lt _ _ (by omega)) (foldl_lt _ _ (by omega)) fun i _ _ => ?_
  rw [has_foldl, has_foldl]
  congr 2
  rw [Bool.eq_iff_iff, List.contains_iff_mem, List.contains_iff_mem, hp.mem_iff]
theorem com_perm {L M : List Int} (hp : L.Perm M) : ∀ c : Int, L.foldl max c = M.foldl max c := by
  induction hp with
  | nil => exact fun _ => rfl
  | cons x _ ih => exact fun c => by rw [List.foldl_cons, List.foldl_cons]; exact ih _
  | swap x y l => exact fun c => by rw [List.foldl_cons, List.foldl_cons, List.foldl_cons, List.foldl_cons]; congr 1; omega
  | trans _ _ h1 h2 => exact fun c => (h1 c).trans (h2 c)
theorem comTo_L (l : List VtS) : comTo l = ((l.map fun x => x.v).map fun v => v.com).foldl max 0 := by
  unfold comTo; rw [List.map_map, List.foldl_map]; rfl
theorem teamV_L (l : List VtS) : teamV l = ((l.map fun x => x.v).map fun v => v.frm).foldl withT 0 := by
  unfold teamV; rw [List.map_map]; rfl

/-- a vote that may be, but for who voted already -/
def okX (view n : Int) (x : Vt) : Bool :=
  decide (1 ≤ x.frm) && decide (x.frm ≤ n) && decide (0 ≤ x.last) && decide (x.last < view) && decide ((logE x.lg).length = x.lg.length) && decide (0 ≤ x.com) && decide (x.com ≤ (x.lg.length : Int))
theorem okV_okX {view n : Int} {l : List VtS} {x : Vt} (h : hasT (teamV l) x.frm = false) : okV view n l x = okX view n x := by
  unfold okV okX; rw [h]; simp
theorem no_team {l : List VtS} {L : List Vt} {x : Vt} (hl : (l.map fun y => y.v) = L) (h : x.frm ∉ L.map fun y => y.frm) : hasT (teamV l) x.frm = false := by
  rw [teamV_L, hl, has_foldl, has_zero]
  have : (L.map fun y => y.frm).contains x.frm = false := by
    rw [Bool.eq_false_iff]; intro h1; exact h (List.contains_iff_mem.1 h1)
  rw [this]; rfl
/-- one more of a list is gathered -/
theorem gather_step {view n : Int} {lp lp' : List VtS} {L : List Vt} {k : Nat} (hd : (L.map fun x => x.frm).Nodup) (hk : k < L.length) (h : (lp.map fun y => y.v) = (L.take k).filter (okX view n))
    (h' : (lp'.map fun y => y.v) = (lp.map fun y => y.v) ++ (if okV view n lp L[k] then [L[k]] else [])) : (lp'.map fun y => y.v) = (L.take (k + 1)).filter (okX view n) := by
  have hno : L[k].frm ∉ ((L.take k).filter (okX view n)).map fun y => y.frm := by
    intro hm
    obtain ⟨y, hy, e⟩ := List.mem_map.1 hm
    have hy := (List.mem_filter.1 hy).1
    obtain ⟨j, hj, rfl⟩ := List.getElem_of_mem hy
    rw [List.getElem_take] at e
    have hjk : j < k := by rw [List.length_take] at hj; omega
    have h1 := List.pairwise_iff_getElem.1 hd j k (by rw [List.length_map]; omega) (by rw [List.length_map]; omega) hjk
    rw [List.getElem_map, List.getElem_map] at h1
    exact h1 e
  rw [h', okV_okX (no_team h hno), h, List.take_succ_eq_append_getElem hk, List.filter_append]
  congr 1
  cases hq : okX view n L[k] <;> simp [hq]
/-- both are one -/
theorem order_same {view n : Int} {lp lu : List VtS} {L : List Vt} (hd : (L.map fun x => x.frm).Nodup) (h1 : (lp.map fun y => y.v) = L.filter (okX view n)) (h2 : (lu.map fun y => y.v) = L.reverse.filter (okX view n)) :
    teamV lp = teamV lu ∧ comTo lp = comTo lu ∧ lp.length = lu.length ∧ ∀ (a : 0 < lp.length) (b : 0 < lu.length), (bestTo lp[0] lp).v = (bestTo lu[0] lu).v := by
  have hp : (lp.map fun y => y.v).Perm (lu.map fun y => y.v) := by
    rw [h1, h2, List.filter_reverse]
    exact (List.reverse_perm _).symm
  have hdf : ((lp.map fun y => y.v).map fun x => x.frm).Nodup := by
    rw [h1]
    exact List.Nodup.sublist (List.Sublist.map _ List.filter_sublist) hd
  refine ⟨?_, ?_, ?_, fun a b => ?_⟩
  · rw [teamV_L, teamV_L]; exact team_perm (hp.map _)
  · rw [comTo_L, comTo_L]; exact com_perm (hp.map _) 0
  · simpa using hp.length_eq
  · rw [bestTo_L, bestTo_L]
    exact best_perm hdf hp (List.mem_map.2 ⟨_, List.getElem_mem a, rfl⟩) (List.mem_map.2 ⟨_, List.getElem_mem b, rfl⟩)
end Go.Proofs.Ytacchkmdheglaaa
