/- Names said in any order come to one table; strings are cut; plain but for one contract. -/
import Derived.Test.YtbmldiklgkojnaaTbK
namespace Go.Proofs.Ytbmldiklgkojnaa
open Go.RowKit
set_option linter.unusedVariables false

set_option maxRecDepth 100000 in
set_option maxHeartbeats 400000 in
theorem cutN_any (s : ByteArray) (n : Nat) (w : World) (hs : s.size ≤ 9223372036854775807) (hn : n ≤ 100) :
    Calls Try.prog 10 #[.string s, .int .i64 (n : Int)] w fun x w' => x = .returned (.string (cutS s n)) ∧ w = w' := by
  by_cases h : n < s.size
  · go_enter Try.func10, Try.ntmps10
    go_wp2
    go_ret
    refine ⟨?_, rfl⟩
    rw [cutS, if_pos h]; rfl
  · go_enter Try.func10, Try.ntmps10
    go_wp2
    go_ret
    refine ⟨?_, rfl⟩
    rw [cutS, if_neg h]; rfl

theorem up_eq {L M : Tb} (hL : UpT L) (hM : UpT M) (h : ∀ x, x ∈ L ↔ x ∈ M) : L = M := by
  have nd : ∀ {L : Tb}, UpT L → L.Nodup := fun hu => hu.imp (fun {a b} hlt e => by rw [e] at hlt; exact List.lt_irrefl _ hlt)
  exact List.Perm.eq_of_pairwise (le := fun a b => nm a < nm b) (fun a b _ _ h1 h2 => absurd (List.lt_trans h1 h2) (List.lt_irrefl _)) hL hM ((List.perm_ext_iff_of_nodup (nd hL) (nd hM)).2 h)
def tabN (l : List ByteArray) (v : ByteArray) : Tb := l.foldl (fun L n => doT L n v) []
theorem tabN_snoc (l : List ByteArray) (n v : ByteArray) : tabN (l ++ [n]) v = doT (tabN l v) n v := by
  unfold tabN; rw [List.foldl_append]; rfl
theorem tabN_take (l : List ByteArray) (v : ByteArray) (k : Nat) (h : k < l.length) : tabN (l.take (k + 1)) v = doT (tabN (l.take k) v) l[k] v := by
  rw [List.take_succ_eq_append_getElem h, tabN_snoc]
theorem tabN_none (v : ByteArray) (hv : v.size = 0) : ∀ (l : List ByteArray), tabN l v = [] := by
  have key : ∀ (l : List ByteArray) (L : Tb), L = [] → l.foldl (fun L n => doT L n v) L = [] := by
    intro l
    induction l with
    | nil => exact fun L h => h
    | cons n l ih =>
      intro L h
      rw [List.foldl_cons]
      refine ih _ ?_
      subst h
      unfold doT
      rw [if_pos hv]; rfl
  exact fun l => key l [] rfl
theorem snoc_ind {P : List ByteArray → Prop} (h0 : P []) (h1 : ∀ l n, P l → P (l ++ [n])) : ∀ l, P l := by
  intro l
  have : ∀ k, k ≤ l.length → P (l.take k) := by
    intro k
    induction k with
    | zero => intro _; exact h0
    | succ k ih =>
      intro hk
      rw [List.take_succ_eq_append_getElem (by omega)]
      exact h1 _ _ (ih (by omega))
  have := this l.length (Nat.le_refl _)
  rwa [List.take_length] at this
theorem tabN_up (v : ByteArray) : ∀ l, UpT (tabN l v) :=
  snoc_ind List.Pairwise.nil fun l n h => by rw [tabN_snoc]; exact do_up h
theorem tabN_mem (v : ByteArray) (hv : v.size ≠ 0) : ∀ l x, x ∈ tabN l v ↔ ∃ n ∈ l, x = (n, v) := by
  refine snoc_ind (fun x => by simp [tabN]) fun l n ih x => ?_
  rw [tabN_snoc]
  unfold doT
  rw [if_neg hv, ins_mem]
  unfold delT
  rw [List.mem_filter, ih x]
  constructor
  · rintro (h | ⟨⟨m, hm, h⟩, _⟩)
    · exact ⟨n, by simp, h⟩
    · exact ⟨m, List.mem_append_left _ hm, h⟩
  · rintro ⟨m, hm, h⟩
    by_cases e : m = n
    · subst e; exact .inl h
    · refine .inr ⟨⟨m, ?_, h⟩, ?_⟩
      · rcases List.mem_append.1 hm with hm | hm
        · exact hm
        · exact absurd (by simpa using hm) e
      · subst h
        have := ba_ne e
        simpa using this
theorem tabN_rev (v : ByteArray) (l : List ByteArray) : tabN l.reverse v = tabN l v := by
  by_cases hv : v.size = 0
  · rw [tabN_none v hv, tabN_none v hv]
  · refine up_eq (tabN_up v _) (tabN_up v _) fun x => ?_
    rw [tabN_mem v hv, tabN_mem v hv]
    simp only [List.mem_reverse]
theorem tabN_len (v : ByteArray) (hv : v.size ≠ 0) : ∀ l : List ByteArray, l.Nodup → (tabN l v).length = l.length := by
  refine snoc_ind (fun _ => rfl) fun l n ih hnd => ?_
  rw [List.nodup_append] at hnd
  obtain ⟨h1, _, h3⟩ := hnd
  rw [tabN_snoc, List.length_append]
  unfold doT
  rw [if_neg hv, ins_len]
  have : delT n (tabN l v) = tabN l v := by
    unfold delT
    refine List.filter_eq_self.2 fun x hx => ?_
    obtain ⟨m, hm, rfl⟩ := (tabN_mem v hv l x).1 hx
    have hne : m ≠ n := h3 m hm n (by simp)
    have := ba_ne hne
    simpa using this
  rw [this, ih h1]; rfl
theorem tabN_small (v : ByteArray) (hv : v.size ≤ 16) : ∀ l : List ByteArray, (∀ n ∈ l, n.size ≤ 16) → ∀ p ∈ tabN l v, p.1.size ≤ 16 ∧ p.2.size ≤ 16 := by
  refine snoc_ind (fun _ => by simp [tabN]) fun l n ih h => ?_
  rw [tabN_snoc]
  exact do_small (ih fun m hm => h m (List.mem_append_left _ hm)) (h n (by simp)) hv

/-! the names that are taken -/
def eqS (a b : ByteArray) : Bool := a.toList == b.toList
theorem eqS_iff (a b : ByteArray) : eqS a b = true ↔ a = b := by
  unfold eqS
  rw [beq_iff_eq, ByteArray.toList_eq, ByteArray.toList_eq]
  exact ⟨ba_ext, fun h => by rw [h]⟩
structure GoodN (l : List ByteArray) : Prop where
  nd : l.Nodup
  ok : ∀ n ∈ l, 0 < n.size ∧ n.size ≤ 8 ∧ (61 : UInt8) ∉ n.data.toList
theorem goodN_nil : GoodN [] := ⟨List.nodup_nil, by simp⟩
def inN (l : List ByteArray) (n : ByteArray) : Bool := (n.toList.isEmpty || n.data.toList.any (fun b => b == 61)) || l.any (fun x => eqS x n)
theorem goodN_snoc {l : List ByteArray} {n : ByteArray} (h : GoodN l) (hn : n.size ≤ 8) (hi : inN l n = false) : GoodN (l ++ [n]) := by
  unfold inN at hi
  simp only [Bool.or_eq_false_iff] at hi
  obtain ⟨⟨h1, h2⟩, h3⟩ := hi
  refine ⟨?_, fun m hm => ?_⟩
  · rw [List.nodup_append]
    refine ⟨h.nd, by simp, fun a ha b hb => ?_⟩
    obtain rfl : b = n := by simpa using hb
    intro e
    have := List.any_eq_false.1 h3 a ha
    exact this ((eqS_iff a b).2 e)
  · rcases List.mem_append.1 hm with hm | hm
    · exact h.ok m hm
    · obtain rfl : m = n := by simpa using hm
      refine ⟨?_, hn, fun hmem => ?_⟩
      · rcases Nat.eq_zero_or_pos m.size with e | e
        · have : m = ByteArray.empty := ba_ext (by rw [List.length_eq_zero_iff.1 ((size_len m).trans e)]; rfl)
          rw [this, sNil] at h1
          cases h1
        · exact e
      · have := List.any_eq_false.1 h2 61 hmem
        exact this (by simp)
theorem any_take {α : Type} (p : α → Bool) (l : List α) (k : Nat) (h : k < l.length) : (l.take (k + 1)).any p = ((l.take k).any p || p l[k]) := by
  rw [List.take_succ_eq_append_getElem h, List.any_append]
  simp
end Go.Proofs.Ytbmldiklgkojnaa
