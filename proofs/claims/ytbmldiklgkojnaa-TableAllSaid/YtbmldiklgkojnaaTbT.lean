/- The reference's table: as data, in memory; asked, summed. -/
import Derived.Test.YtbmldiklgkojnaaTbR
import Derived.Test.YtbmldiklgkojnaaTbF
import Derived.Test.YtbmldiklgkojnaaRdS
import Derived.Test.YtbmldiklgkojnaaEntM
namespace Go.Proofs.Ytbmldiklgkojnaa
open Go.RowKit
set_option linter.unusedVariables false

/-! what the reference does -/
abbrev rS1 (a b : ByteArray) (s : Tb × Bool) (p : ByteArray × ByteArray) : Tb × Bool := if s.2 = false ∧ a.data.toList ≤ nm p then (s.1 ++ [(a, b)], true) else s
def rStep (a b : ByteArray) (s : Tb × Bool) (p : ByteArray × ByteArray) : Tb × Bool :=
  if nm p = a.data.toList then rS1 a b s p else ((rS1 a b s p).1 ++ [p], (rS1 a b s p).2)
def rEnd (a b : ByteArray) (s : Tb × Bool) : Tb := if s.2 = false then s.1 ++ [(a, b)] else s.1
theorem del_yes {a : ByteArray} {p : ByteArray × ByteArray} (r : Tb) (h : nm p = a.data.toList) : delT a (p :: r) = delT a r := by
  unfold delT
  rw [List.filter_cons, if_neg (by rw [beq_iff_eq.2 h]; decide)]
theorem del_no {a : ByteArray} {p : ByteArray × ByteArray} (r : Tb) (h : ¬ nm p = a.data.toList) : delT a (p :: r) = p :: delT a r := by
  unfold delT
  rw [List.filter_cons, if_pos (by rw [beq_eq_false_iff_ne.2 h]; rfl)]
theorem r_done (a b : ByteArray) : ∀ (L A : Tb), L.foldl (rStep a b) (A, true) = (A ++ delT a L, true) := by
  intro L
  induction L with
  | nil => intro A; simp [delT]
  | cons p r ih =>
    intro A
    rw [List.foldl_cons]
    have e1 : rS1 a b (A, true) p = (A, true) := if_neg (fun h => by cases h.1)
    by_cases h : nm p = a.data.toList
    · have e2 : rStep a b (A, true) p = (A, true) := by unfold rStep; rw [if_pos h, e1]
      rw [e2, ih, del_yes r h]
    · have e2 : rStep a b (A, true) p = (A ++ [p], true) := by unfold rStep; rw [if_neg h, e1]
      rw [e2, ih, del_no r h]; simp
theorem ins_first (a b : ByteArray) {M : Tb} (h : ∀ x ∈ M, a.data.toList < nm x) : insT a b M = (a, b) :: M := by
  cases M with
  | nil => rfl
  | cons x r => unfold insT; rw [if_pos (h x (by simp))]
theorem r_go (a b : ByteArray) : ∀ (L A : Tb), UpT L → rEnd a b (L.foldl (rStep a b) (A, false)) = A ++ insT a b (delT a L) := by
  intro L
  induction L with
  | nil => intro A _; simp [rEnd, delT, insT]
  | cons p r ih =>
    intro A hu
    obtain ⟨hp, hr⟩ := List.pairwise_cons.1 hu
    rw [List.foldl_cons]
    by_cases hle : a.data.toList ≤ nm p
    · have e1 : rS1 a b (A, false) p = (A ++ [(a, b)], true) := if_pos ⟨rfl, hle⟩
      by_cases h : nm p = a.data.toList
      · have e2 : rStep a b (A, false) p = (A ++ [(a, b)], true) := by unfold rStep; rw [if_pos h, e1]
        rw [e2, r_done]
        rw [del_yes r h, ins_first a b (fun x hx => by have := hp x (List.mem_filter.1 hx).1; rw [h] at this; exact this)]
        simp [rEnd]
      · have e2 : rStep a b (A, false) p = (A ++ [(a, b)] ++ [p], true) := by unfold rStep; rw [if_neg h, e1]
        rw [e2, r_done]
        have hlt : a.data.toList < nm p := lt_of_not (fun h2 => h (List.le_antisymm (List.le_of_lt h2) hle)) (fun e => h e.symm)
        rw [del_no r h, ins_first a b (fun x hx => by
          rcases List.mem_cons.1 hx with rfl | hx
          · exact hlt
          · exact List.lt_trans hlt (hp x (List.mem_filter.1 hx).1))]
        simp [rEnd]
    · have hlt : nm p < a.data.toList := List.not_le.1 hle
      have h : ¬ nm p = a.data.toList := fun e => by rw [e] at hlt; exact List.lt_irrefl _ hlt
      have e1 : rS1 a b (A, false) p = (A, false) := if_neg (fun h2 => hle h2.2)
      have e2 : rStep a b (A, false) p = (A ++ [p], false) := by unfold rStep; rw [if_neg h, e1]
      rw [e2, ih (A ++ [p]) hr]
      rw [del_no r h]
      have : insT a b (p :: delT a r) = p :: insT a b (delT a r) := by
        rw [insT, if_neg (fun h2 => List.lt_irrefl _ (List.lt_trans h2 hlt))]
      rw [this]; simp
theorem r_do {L : Tb} (hu : UpT L) (a b : ByteArray) : rEnd a b (L.foldl (rStep a b) ([], decide (b.size = 0))) = doT L a b := by
  unfold doT
  by_cases hb : b.size = 0
  · rw [if_pos hb, decide_eq_true hb, r_done]
    simp [rEnd]
  · rw [if_neg hb, decide_eq_false hb, r_go a b L [] hu]; rfl
theorem r_len (a b : ByteArray) (d : Bool) : ∀ (L : Tb) (k : Nat), ((L.take k).foldl (rStep a b) ([], d)).1.length ≤ 2 * k := by
  intro L k
  induction k with
  | zero => simp
  | succ k ih =>
    by_cases hlt : k < L.length
    · rw [List.take_succ_eq_append_getElem hlt, List.foldl_append]
      generalize (L.take k).foldl (rStep a b) ([], d) = s at ih
      show (rStep a b s L[k]).1.length ≤ _
      have h1 : (rS1 a b s L[k]).1.length ≤ s.1.length + 1 := by
        unfold rS1; split
        · simp
        · omega
      unfold rStep
      split
      · omega
      · rw [List.length_append]; simp; omega
    · rw [List.take_of_length_le (by omega)] at ih ⊢
      omega

/-! in memory -/
def cP (w : World) (b o : Nat) (p : ByteArray × ByteArray) : Prop := w.cell? ⟨b, o, none⟩ = some (.string p.1) ∧ w.cell? ⟨b, o + 1, none⟩ = some (.string p.2)
theorem cP.grow (w w' : World) (b o : Nat) (p : ByteArray × ByteArray) (h : cP w b o p) (hb : Below w.heap.size w w') : cP w' b o p := ⟨cell_bel h.1 hb, cell_bel h.2 hb⟩
abbrev rdP (w : World) (v : Value) (L : Tb) : Prop := rdS 2 cP w v L
abbrev cellsP (p : ByteArray × ByteArray) : List Value := [.string p.1, .string p.2]
def flatP (L : Tb) : List Value := L.flatMap cellsP
theorem flatP_snoc (L : Tb) (p : ByteArray × ByteArray) : flatP (L ++ [p]) = flatP L ++ cellsP p := by
  unfold flatP; rw [List.flatMap_append]; simp
theorem flatP_get (L : Tb) (j : Nat) (h : j < L.length) (c : Nat) (hc : c < 2) : (flatP L)[j * 2 + c]? = (cellsP L[j])[c]? := by
  induction L generalizing j with
  | nil => simp at h
  | cons x l ih =>
    unfold flatP at ih ⊢
    rw [List.flatMap_cons]
    cases j with
    | zero => rw [Nat.zero_mul, Nat.zero_add, List.getElem?_append_left (by simpa using hc)]; rfl
    | succ j =>
      rw [List.getElem?_append_right (by simp; omega), show (j + 1) * 2 + c - (cellsP x).length = j * 2 + c by simp; omega, ih j (by simpa using h)]
      rfl
def ownP (w : World) (base : Nat) (v : Value) (L : Tb) : Prop := w.ownsRow base 42 2 v L.length (flatP L)
theorem ownP_snoc {w : World} {base n : Nat} {v : Value} {L : Tb} {p : ByteArray × ByteArray} (hn : n = L.length) (h : w.ownsRow base 42 2 v (n + 1) (flatP L ++ cellsP p)) : ownP w base v (L ++ [p]) := by
  subst hn
  unfold ownP
  rw [List.length_append, flatP_snoc]; exact h
theorem ownP.rd {w : World} {base : Nat} {v : Value} {L : Tb} (h : ownP w base v L) : rdP w v L := by
  obtain ⟨hl, ⟨rfl, h0⟩ | ⟨g, cap, cur, rfl, hb, hg, hn, hc, hs, ht⟩⟩ := h
  · exact ⟨none, 0, by rw [h0], by rw [h0]; exact Nat.zero_le _, Nat.zero_le _, fun h => by omega⟩
  · refine ⟨some ⟨g, 0, none⟩, cap, rfl, hn, hc, fun _ => ⟨g, 0, rfl, fun j hj => ?_⟩⟩
    have key : ∀ c u, c < 2 → (cellsP L[j])[c]? = some u → w.cell? ⟨g, 0 + j * 2 + c, none⟩ = some u := by
      intro c u hc hu
      have h1 : (cur.toList.take (L.length * 2))[j * 2 + c]? = some u := by rw [ht, flatP_get L j hj c hc]; exact hu
      rw [List.getElem?_take] at h1
      split at h1
      · simp [World.cell?, hg] at h1 ⊢
        simpa using h1
      · cases h1
    exact ⟨key 0 _ (by omega) rfl, key 1 _ (by omega) rfl⟩
/-- the reference's table behind a pointer -/
def rtO (w : World) (rb : Nat) (L : Tb) : Prop := ∃ v, w.heap[rb]? = some (.cells #[v] 29 (0, 0)) ∧ rdP w v L
theorem rtO.grow {w w' : World} {rb : Nat} {L : Tb} (h : rtO w rb L) (hb : Below w.heap.size w w') : rtO w' rb L := by
  obtain ⟨v, h1, h2⟩ := h
  exact ⟨v, at_below h1 hb, rdS.grow cP.grow h2 hb⟩
theorem rtO.chg {w w' : World} {rb tb : Nat} {L : Tb} (h : rtO w rb L) {es : Array MapEntry} {clock : Nat} (ht : w.heap[tb]? = some (.map es clock)) (hc : Chg (fun j => j = tb) w w') : rtO w' rb L := by
  obtain ⟨v, h1, a, cap, rfl, hm, hM, ha⟩ := h
  refine ⟨_, at_chg h1 hc (fun e => by have e' : rb = tb := e; rw [e', ht] at h1; cases h1), a, cap, rfl, hm, hM, fun h0 => ?_⟩
  obtain ⟨b, off, rfl, hx⟩ := ha h0
  have hne : ¬ b = tb := fun e => by
    have := (hx 0 h0).1
    rw [e] at this
    simp [World.cell?, ht] at this
  exact ⟨b, off, rfl, fun j hj => ⟨cell_chg (hx j hj).1 hc hne, cell_chg (hx j hj).2 hc hne⟩⟩

set_option maxRecDepth 100000 in
set_option maxHeartbeats 4000000 in
theorem r12Get_any (rb : Nat) (L : Tb) (a : ByteArray) (w : World) (h : rtO w rb L) (hl : L.length ≤ 1000) :
    Calls Try.prog 18 #[.pointer (some ⟨rb, 0, none⟩), .string a] w fun r w' => r = .returned (.tuple #[.string (getT L a).1, .bool (getT L a).2]) ∧ w = w' := by
  obtain ⟨v, h1, aa, cap, rfl, hm, hM, ha⟩ := h
  have c0 := cell_at h1 0
  simp only [List.getElem?_toArray, List.getElem?_cons_zero] at c0
  unfold maxLen at hM
  replace ha := Lib.hid ha
  have hG : getT L a = match L.find? (fun p => nm p == a.data.toList) with
    | some p => (p.2, true)
    | none => (ByteArray.empty, false) := rfl
  obtain ⟨⟨x, y⟩, hx⟩ : ∃ t, getT L a = t := ⟨_, rfl⟩
  rw [hx] at hG ⊢
  replace hG := Lib.hid hG
  dsimp only
  clear h1 hx
  go_enter Try.func18, Try.ntmps18
  go_wp2
  go_loop [6] (fun i => ∃ k : Nat, k ≤ L.length ∧ i = .int .i64 k ∧ ∀ j (hj : j < L.length), j < k → nm L[j] ≠ a.data.toList) (fun i => L.length - (intOf i).toNat)
  case atStart => exact ⟨0, Nat.zero_le _, rfl, fun j hj h => by omega⟩
  case round =>
    obtain ⟨k, hk, rfl, hno⟩ := hrel
    by_cases hlt : k < L.length
    · obtain ⟨g, off, rfl, hc⟩ := ha.out (by omega)
      have hck := hc k hlt
      obtain ⟨x0, x1⟩ := hck
      have hfind : nm L[k] = a.data.toList → L.find? (fun p => nm p == a.data.toList) = some L[k] := fun e => by
        rw [List.find?_eq_some_iff_getElem]
        refine ⟨by simpa using e, k, hlt, rfl, fun j hj => ?_⟩
        have := hno j (by omega) hj
        simpa using this
      have hnext : nm L[k] ≠ a.data.toList → ∀ j (hj : j < L.length), j < k + 1 → nm L[j] ≠ a.data.toList := fun hne j hj hjk => by
        by_cases e : j = k
        · subst e; exact hne
        · exact hno j hj (by omega)
      have heq : ∀ p : ByteArray × ByteArray, (p.1.toList == a.toList) = decide (nm p = a.data.toList) := fun p => by
        rw [ByteArray.toList_eq, ByteArray.toList_eq, Bool.eq_iff_iff, beq_iff_eq, decide_eq_true_eq]
      have hqq := heq L[k]
      clear hc hno
      generalize L[k] = p at x0 x1 hfind hnext hqq
      obtain ⟨p1, p2⟩ := p
      dsimp only at x0 x1 hqq
      by_cases he : nm (p1, p2) = a.data.toList
      · rw [decide_eq_true he] at hqq
        have hz : Hid ((x, y) = (p2, true)) := Lib.hid (by rw [hG.out, hfind he])
        obtain ⟨rfl, rfl⟩ := Prod.mk.inj hz.out
        clear hz hfind hnext he
        go_wp2
        exact bodyPost_ret (v := .tuple #[.string x, .bool true]) (by simp [results, Try.results18, go_sem]) rfl ⟨rfl, rfl⟩
      · rw [decide_eq_false he] at hqq
        have hn := hnext he
        clear hfind hnext he
        replace hn := Lib.hid hn
        go_wp2
        go_round
        case rel => exact ⟨k + 1, by omega, by go_num, hn.out⟩
        case measure => simp [intOf]; omega
    · have hf : L.find? (fun p => nm p == a.data.toList) = none := by
        rw [List.find?_eq_none]
        intro p hp
        obtain ⟨j, hj, rfl⟩ := List.getElem_of_mem hp
        have := hno j hj (by omega)
        simpa using this
      have hz : Hid ((x, y) = (ByteArray.empty, false)) := Lib.hid (by rw [hG.out, hf])
      obtain ⟨rfl, rfl⟩ := Prod.mk.inj hz.out
      clear hz hno hf
      go_wp2
      exact bodyPost_ret (v := .tuple #[.string ByteArray.empty, .bool false]) (by simp [results, Try.results18, go_sem] <;> rfl) rfl ⟨rfl, rfl⟩
end Go.Proofs.Ytbmldiklgkojnaa
