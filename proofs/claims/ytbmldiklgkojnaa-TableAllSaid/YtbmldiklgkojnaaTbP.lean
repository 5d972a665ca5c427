/- Tables as data: words, pairs by their names, what they come to; plain. -/
import Derived.Test.YtbmldiklgkojnaaBase
import Derived.Lib.CutLaws
import Derived.Lib.IndexBytes
import Derived.Maps.OwnSet
import Derived.Maps.StringElems
import Derived.Sort.KeysCollected
namespace Go.Proofs.Ytbmldiklgkojnaa
open Go.RowKit
set_option linter.unusedVariables false

theorem ba_ext {a b : ByteArray} (h : a.data.toList = b.data.toList) : a = b := ByteArray.ext (Array.toList_inj.1 h)
theorem ba_ne {a b : ByteArray} (h : a ≠ b) : a.data.toList ≠ b.data.toList := fun e => h (ba_ext e)

/-! words -/
def eqAt (s : ByteArray) : Int := Lib.indexByte s.data.toList 61
def wordT (s : ByteArray) : ByteArray × ByteArray × Bool :=
  if 1 ≤ eqAt s then (s.extract 0 (eqAt s).toNat, s.extract ((eqAt s).toNat + 1) s.size, true) else (ByteArray.empty, ByteArray.empty, false)
theorem indexByte_spec : ∀ (l : List UInt8) (c : UInt8), (Lib.indexByte l c = -1 ∧ c ∉ l) ∨ (∃ i : Nat, Lib.indexByte l c = i ∧ ∃ h : i < l.length, l[i] = c ∧ c ∉ l.take i) := by
  intro l c
  induction l with
  | nil => exact .inl ⟨rfl, by simp⟩
  | cons b l ih =>
    unfold Lib.indexByte
    by_cases h : b = c
    · subst h
      exact .inr ⟨0, by simp, by simp, rfl, by simp⟩
    · have hb : (b == c) = false := by simpa using h
      rw [hb]
      rcases ih with ⟨e, hn⟩ | ⟨i, e, hi, h1, h2⟩
      · rw [e]
        refine .inl ⟨rfl, ?_⟩
        simp only [List.mem_cons, not_or]
        exact ⟨fun e => h e.symm, hn⟩
      · rw [e]
        refine .inr ⟨i + 1, ?_, by rw [List.length_cons]; omega, by simpa using h1, ?_⟩
        · have : ((i : Int) == -1) = false := by simp <;> omega
          simp [this]
        · rw [List.take_succ_cons, List.mem_cons, not_or]
          exact ⟨fun e => h e.symm, h2⟩
theorem size_len (s : ByteArray) : s.data.toList.length = s.size := Array.length_toList
theorem eqAt_cases (s : ByteArray) : eqAt s = -1 ∨ ∃ i : Nat, eqAt s = i ∧ i < s.size := by
  rcases indexByte_spec s.data.toList 61 with ⟨e, _⟩ | ⟨i, e, hi, _⟩
  · exact .inl e
  · exact .inr ⟨i, e, by rw [← size_len]; exact hi⟩
/-- a name without '=' ahead of '=' and what it stands for -/
theorem eqAt_of {a b s : ByteArray} (hs : s.data.toList = a.data.toList ++ 61 :: b.data.toList) (hn : (61 : UInt8) ∉ a.data.toList) : eqAt s = a.size := by
  unfold eqAt
  rcases indexByte_spec s.data.toList 61 with ⟨e, h⟩ | ⟨i, e, hi, h1, h2⟩
  · exact absurd (by rw [hs]; simp) h
  · rw [e]
    have hlen : a.data.toList.length = a.size := size_len a
    have hA : ¬ i < a.data.toList.length := fun hlt => by
      apply hn
      rw [← h1]
      simp only [hs]
      rw [List.getElem_append_left hlt]
      exact List.getElem_mem hlt
    have hB : ¬ a.data.toList.length < i := fun hlt => by
      apply h2
      rw [hs, List.take_append, List.mem_append]
      right
      obtain ⟨m, hm⟩ : ∃ m, i - a.data.toList.length = m + 1 := ⟨i - a.data.toList.length - 1, by omega⟩
      rw [hm, List.take_succ_cons]
      exact List.mem_cons_self
    omega
theorem extract_list (s : ByteArray) (i j : Nat) : (s.extract i j).data.toList = (s.data.toList.take j).drop i := by
  simp [ByteArray.data_extract, Array.toList_extract, List.extract_eq_take_drop, List.drop_take]
theorem wordT_of {a b s : ByteArray} (hs : s.data.toList = a.data.toList ++ 61 :: b.data.toList) (hn : (61 : UInt8) ∉ a.data.toList) (h0 : 0 < a.size) : wordT s = (a, b, true) := by
  have he := eqAt_of hs hn
  have hl : s.size = a.size + 1 + b.size := by
    have := congrArg List.length hs
    rw [List.length_append, List.length_cons, size_len, size_len, size_len] at this
    omega
  unfold wordT
  rw [he, if_pos (by omega), Int.toNat_natCast]
  refine Prod.ext (ba_ext ?_) (Prod.ext (ba_ext ?_) rfl)
  · show (s.extract 0 a.size).data.toList = _
    rw [extract_list, hs, List.drop_zero, ← size_len, List.take_left]
  · show (s.extract (a.size + 1) s.size).data.toList = _
    rw [extract_list, List.take_of_length_le (by rw [size_len]; exact Nat.le_refl _), hs, ← size_len, List.drop_append]
    simp
theorem wordT_size (s : ByteArray) : (wordT s).1.size ≤ s.size ∧ (wordT s).2.1.size ≤ s.size := by
  unfold wordT
  split
  · simp only [ByteArray.size_extract]
    omega
  · simp
theorem wordT_pos (s : ByteArray) (h : (wordT s).2.2 = true) : 0 < (wordT s).1.size := by
  unfold wordT at h ⊢
  rcases eqAt_cases s with e | ⟨i, e, hi⟩
  · rw [e] at h; simp at h
  · rw [e] at h ⊢
    split at h
    · rename_i h1
      rw [if_pos h1]
      simp only [ByteArray.size_extract]
      omega
    · simp at h

/-! pairs by their names -/
abbrev Tb := List (ByteArray × ByteArray)
abbrev nm (p : ByteArray × ByteArray) : List UInt8 := p.1.data.toList
def UpT (L : Tb) : Prop := L.Pairwise fun p q => nm p < nm q
def insT (a b : ByteArray) : Tb → Tb
  | [] => [(a, b)]
  | p :: r => if a.data.toList < nm p then (a, b) :: p :: r else p :: insT a b r
def delT (a : ByteArray) (L : Tb) : Tb := L.filter fun p => !(nm p == a.data.toList)
def doT (L : Tb) (a b : ByteArray) : Tb := if b.size = 0 then delT a L else insT a b (delT a L)
def getT (L : Tb) (a : ByteArray) : ByteArray × Bool := match L.find? (fun p => nm p == a.data.toList) with
  | some p => (p.2, true)
  | none => (ByteArray.empty, false)
theorem ins_mem (a b : ByteArray) (L : Tb) : ∀ x, x ∈ insT a b L ↔ x = (a, b) ∨ x ∈ L := by
  induction L with
  | nil => intro x; simp [insT]
  | cons p r ih =>
    intro x
    unfold insT
    split
    · simp
    · rw [List.mem_cons, ih, List.mem_cons]
      constructor
      · rintro (h | h | h)
        · exact .inr (.inl h)
        · exact .inl h
        · exact .inr (.inr h)
      · rintro (h | h | h)
        · exact .inr (.inl h)
        · exact .inl h
        · exact .inr (.inr h)
theorem lt_of_not {a b : List UInt8} (h : ¬ a < b) (hne : b ≠ a) : b < a := by
  refine Classical.byContradiction fun h2 => hne ?_
  exact List.le_antisymm (List.not_lt.1 h) (List.not_lt.1 h2)
theorem ins_up {a b : ByteArray} {L : Tb} (hu : UpT L) (hn : ∀ p ∈ L, nm p ≠ a.data.toList) : UpT (insT a b L) := by
  induction L with
  | nil => exact List.pairwise_singleton _ _
  | cons p r ih =>
    obtain ⟨h1, h2⟩ := List.pairwise_cons.1 hu
    unfold insT
    split
    · rename_i h
      refine List.pairwise_cons.2 ⟨fun x hx => ?_, hu⟩
      rcases List.mem_cons.1 hx with rfl | hx
      · exact h
      · exact List.lt_trans h (h1 x hx)
    · rename_i h
      refine List.pairwise_cons.2 ⟨fun x hx => ?_, ih h2 (fun q hq => hn q (List.mem_cons_of_mem _ hq))⟩
      rcases (ins_mem a b r x).1 hx with rfl | hx
      · exact lt_of_not h (hn p List.mem_cons_self)
      · exact h1 x hx
theorem del_up {a : ByteArray} {L : Tb} (hu : UpT L) : UpT (delT a L) := List.Pairwise.filter _ hu
theorem del_ne (a : ByteArray) (L : Tb) : ∀ p ∈ delT a L, nm p ≠ a.data.toList := by
  intro p hp
  have := (List.mem_filter.1 hp).2
  simpa using this
theorem do_up {L : Tb} {a b : ByteArray} (hu : UpT L) : UpT (doT L a b) := by
  unfold doT
  split
  · exact del_up hu
  · exact ins_up (del_up hu) (del_ne a L)
theorem ins_len (a b : ByteArray) (L : Tb) : (insT a b L).length = L.length + 1 := by
  induction L with
  | nil => rfl
  | cons p r ih => unfold insT; split <;> simp [ih]
theorem do_len (L : Tb) (a b : ByteArray) : (doT L a b).length ≤ L.length + 1 := by
  have := List.length_filter_le (fun p => !(nm p == a.data.toList)) L
  unfold doT
  split
  · unfold delT; omega
  · rw [ins_len]; unfold delT; omega
theorem do_small {L : Tb} {a b : ByteArray} (h : ∀ p ∈ L, p.1.size ≤ 16 ∧ p.2.size ≤ 16) (ha : a.size ≤ 16) (hb : b.size ≤ 16) : ∀ p ∈ doT L a b, p.1.size ≤ 16 ∧ p.2.size ≤ 16 := by
  intro p hp
  unfold doT at hp
  split at hp
  · exact h p (List.mem_filter.1 hp).1
  · rcases (ins_mem _ _ _ _).1 hp with rfl | hp
    · exact ⟨ha, hb⟩
    · exact h p (List.mem_filter.1 hp).1

/-! the map's datum -/
abbrev litP (p : ByteArray × ByteArray) : Lit × DataW Unit := (.string p.1.data.toList, .lit (.string p.2.data.toList))
def tblD (L : Tb) : DataW Unit := .map (L.map litP)
theorem before_lt : ∀ a b : List UInt8, bytesBefore a b = decide (a < b)
  | [], [] => by simp [bytesBefore]
  | [], _ :: _ => by simp [bytesBefore]
  | _ :: _, [] => by simp [bytesBefore]
  | a :: r, b :: s => by
    unfold bytesBefore
    rw [before_lt r s, Bool.eq_iff_iff]
    simp only [Bool.or_eq_true, Bool.and_eq_true, decide_eq_true_eq, beq_iff_eq, List.cons_lt_cons_iff]
theorem del_D (L : Tb) (a : ByteArray) : (tblD L).del (.string a.data.toList) = tblD (delT a L) := by
  unfold tblD DataW.del delT
  simp only [DataW.map.injEq]
  rw [List.filter_map]
  rfl
theorem ins_D (a b : ByteArray) (L : Tb) : DataW.insert (litP (a, b)) (L.map litP) = (insT a b L).map litP := by
  induction L with
  | nil => rfl
  | cons p r ih =>
    rw [List.map_cons]
    unfold DataW.insert insT
    show (if bytesBefore a.data.toList p.1.data.toList = true then _ else _) = _
    rw [before_lt]
    by_cases h : a.data.toList < p.1.data.toList
    · rw [if_pos (by simpa using h), if_pos h]; rfl
    · rw [if_neg (by simpa using h), if_neg h, ih]; rfl
theorem put_D (L : Tb) (a b : ByteArray) : (tblD L).put (.string a.data.toList) (.lit (.string b.data.toList)) = tblD (insT a b (delT a L)) := by
  unfold tblD DataW.put
  simp only [DataW.map.injEq]
  rw [← ins_D]
  congr 1
  unfold delT
  rw [List.filter_map]
  rfl
theorem find_D (L : Tb) (a : ByteArray) : (L.map litP).find? (fun p => p.1.sameKey (.string a.data.toList)) = (L.find? (fun p => nm p == a.data.toList)).map litP := by
  rw [List.find?_map]
  rfl
theorem at_D (L : Tb) (a : ByteArray) : (tblD L).atKey (.string a.data.toList) (.lit (.string [])) = .lit (.string (getT L a).1.data.toList) := by
  unfold tblD DataW.atKey getT
  simp only
  rw [find_D]
  cases L.find? (fun p => nm p == a.data.toList) <;> rfl
theorem has_D (L : Tb) (a : ByteArray) : Maps.has (tblD L) (.string a.data.toList) = (getT L a).2 := by
  unfold tblD getT
  have h : (L.map litP).any (fun p => p.1.sameKey (.string a.data.toList)) = ((L.map litP).find? (fun p => p.1.sameKey (.string a.data.toList))).isSome := by
    rw [Bool.eq_iff_iff, List.find?_isSome, List.any_eq_true]
  rw [Maps.has_eq, h, find_D]
  cases L.find? (fun p => nm p == a.data.toList) <;> rfl
theorem keys_D (L : Tb) : strKeys (tblD L) = L.map nm := by
  show (L.map litP).map _ = _
  rw [List.map_map]; rfl
theorem size_D (L : Tb) : Maps.size (tblD L) = L.length := by
  unfold tblD
  rw [Maps.size_eq, List.length_map]
/-- sorted, the keys are the names in their order -/
theorem keys_sorted {L : Tb} (hu : UpT L) {ss : List (List UInt8)} (hp : ss.Perm (strKeys (tblD L))) : ss.mergeSort (fun x y => decide (x ≤ y)) = L.map nm := by
  rw [mergeSort_of_perm (l' := L.map nm) (by rw [← keys_D]; exact hp)]
  refine List.mergeSort_of_pairwise ?_
  rw [List.pairwise_map]
  exact List.Pairwise.imp (fun {a b} h => by simpa using List.le_of_lt h) hu
theorem get_mem {L : Tb} (hu : UpT L) {p : ByteArray × ByteArray} (hp : p ∈ L) : getT L p.1 = (p.2, true) := by
  induction L with
  | nil => simp at hp
  | cons x r ih =>
    obtain ⟨h1, h2⟩ := List.pairwise_cons.1 hu
    unfold getT
    rw [List.find?_cons]
    rcases List.mem_cons.1 hp with rfl | hp
    · simp
    · have hne : nm x ≠ p.1.data.toList := fun e => List.lt_irrefl _ (by have := h1 p hp; rw [e] at this; exact this)
      have : (nm x == p.1.data.toList) = false := by simpa using hne
      rw [this]
      have := ih h2 hp
      unfold getT at this
      exact this

/-! what a table comes to, as bytes -/
def txtT (s : ByteArray) : List UInt8 := UInt8.ofNat (2 * s.size) :: s.data.toList
def bytesT (L : Tb) : List UInt8 := L.flatMap fun p => txtT p.1 ++ txtT p.2
def stepC (x : Nat) : Nat := if x % 2 = 1 then (x / 2) ^^^ 3988292384 else x / 2
def stepsC : Nat → Nat → Nat
  | 0, x => x
  | n + 1, x => stepC (stepsC n x)
def byteC (x : Nat) (b : UInt8) : Nat := stepsC 8 (x ^^^ b.toNat)
def crcT (l : List UInt8) : Nat := 4294967295 ^^^ l.foldl byteC 4294967295
theorem xor_lt {a b : Nat} (ha : a < 4294967296) (hb : b < 4294967296) : a ^^^ b < 4294967296 := Nat.xor_lt_two_pow (n := 32) ha hb
theorem stepC_lt {x : Nat} (h : x < 4294967296) : stepC x < 4294967296 := by
  unfold stepC
  split
  · exact xor_lt (by omega) (by omega)
  · omega
theorem stepsC_lt {x : Nat} (h : x < 4294967296) : ∀ n, stepsC n x < 4294967296
  | 0 => h
  | n + 1 => stepC_lt (stepsC_lt h n)
theorem byteC_lt {x : Nat} (h : x < 4294967296) (b : UInt8) : byteC x b < 4294967296 := stepsC_lt (xor_lt h (by have := b.toNat_lt; omega)) 8
theorem foldC_lt : ∀ (l : List UInt8) {x : Nat}, x < 4294967296 → l.foldl byteC x < 4294967296
  | [], _, h => h
  | b :: l, _, h => foldC_lt l (byteC_lt h b)
theorem crcT_nil : crcT [] = 0 := by decide
end Go.Proofs.Ytbmldiklgkojnaa
