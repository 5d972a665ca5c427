/- Contracts: words; a table is made, asked, named. -/
import Derived.Test.YtbmldiklgkojnaaTbS
import Derived.Test.YtbmldiklgkojnaaEntB
import Derived.Test.YtbmldiklgkojnaaChgI
import Derived.WalkSmall
import Derived.WalkSpells
import Derived.Deep.Draws
import Derived.BigQuiet
namespace Go.Proofs.Ytbmldiklgkojnaa
open Go.RowKit Go.Maps Go.Shelf
set_option linter.unusedVariables false

theorem sKeyed : Keyed Try.prog 9 := string_keyed Try.underlying9
theorem sKey {a : ByteArray} (h : a.size ≤ 1000) : keyOf Try.prog 9 (.string a) = some (.string a.data.toList) := by
  have : a.size ≤ maxLen := by unfold maxLen; omega
  simp [keyOf, Try.underlying9, mapKey, this]
theorem sElem {a : ByteArray} (h : a.size ≤ 1000) : (plainElem (H := Unit) Try.prog 9) (.string a) = some (.lit (.string a.data.toList), []) :=
  plainElem_string Try.underlying9 (by unfold maxLen; omega)

theorem sNe {a : ByteArray} (h : ¬ a = ByteArray.empty) : a.toList.isEmpty = false := by
  rw [ByteArray.toList_eq]
  cases hl : a.data.toList with
  | nil => exact absurd (ba_ext (by rw [hl]; rfl)) h
  | cons x l => rfl
theorem sNil : (ByteArray.empty).toList.isEmpty = true := by rw [ByteArray.toList_eq]; rfl
/-- the table behind a pointer -/
structure TbO (w : World) (q tb : Nat) (L : Tb) : Prop where
  ptr : w.heap[q]? = some (.cells #[.map (some tb)] 50 (0, 0))
  own : ∃ n, w.ownsMap Try.prog 9 (plainElem (H := Unit) Try.prog 9) tb n (tblD L)
  up : UpT L
  small : ∀ p ∈ L, p.1.size ≤ 16 ∧ p.2.size ≤ 16
theorem TbO.ne {w : World} {q tb : Nat} {L : Tb} (h : TbO w q tb L) : q ≠ tb := fun e => by
  obtain ⟨n, es, clock, hb, _⟩ := h.own
  have := h.ptr
  rw [e, hb] at this
  cases this
theorem TbO.ltq {w : World} {q tb : Nat} {L : Tb} (h : TbO w q tb L) : q < w.heap.size := at_lt h.ptr
theorem TbO.ltb {w : World} {q tb : Nat} {L : Tb} (h : TbO w q tb L) : tb < w.heap.size := by
  obtain ⟨n, hn⟩ := h.own
  exact hn.lt
theorem own_below {w w' : World} {tb n : Nat} {D : DataW Unit} (h : w.ownsMap Try.prog 9 (plainElem (H := Unit) Try.prog 9) tb n D) (hb : Below w.heap.size w w') : w'.ownsMap Try.prog 9 (plainElem (H := Unit) Try.prog 9) tb n D :=
  h.kept (row := none) ⟨hb.os, hb.tape, hb.output, hb.size, fun k hk _ => hb.block k hk⟩ (by simp)
theorem TbO.grow {w w' : World} {q tb : Nat} {L : Tb} (h : TbO w q tb L) (hb : Below w.heap.size w w') : TbO w' q tb L := by
  obtain ⟨n, hn⟩ := h.own
  exact ⟨at_below h.ptr hb, ⟨n, own_below hn hb⟩, h.up, h.small⟩
/-- as many entries as pairs -/
theorem TbO.tight {w : World} {q tb : Nat} {L : Tb} (h : TbO w q tb L) : w.ownsMap Try.prog 9 (plainElem (H := Unit) Try.prog 9) tb L.length (tblD L) := by
  obtain ⟨n, es, clock, hb, F, hs, hD⟩ := h.own
  refine ⟨es, clock, hb, F, ?_, hD⟩
  have h1 : Maps.size (tblD L) = L.length := size_D L
  rw [hD] at h1
  have h2 : Maps.size (H := Unit) (.map ((es.toList.map (WideElems.rg Try.prog 9 (plainElem (H := Unit) Try.prog 9))).foldr DataW.insert [])) = es.size := by simp [Maps.size, length_sorted]
  omega
theorem TbO.turn {w w' : World} {q tb n : Nat} {L L' : Tb} (h : TbO w q tb L) (hm : w.mapTurned w' tb) (ho : w'.ownsMap Try.prog 9 (plainElem (H := Unit) Try.prog 9) tb n (tblD L')) (hu : UpT L') (hs : ∀ p ∈ L', p.1.size ≤ 16 ∧ p.2.size ≤ 16) :
    TbO w' q tb L' ∧ Chg (fun j => j = tb) w w' := by
  have hg := hm.grown
  have hc : Chg (fun j => j = tb) w w' := ⟨hg.os, hg.tape, hg.output, hg.size, fun k hk hF => hg.block k hk (by simpa using hF)⟩
  exact ⟨⟨at_chg h.ptr hc h.ne, ⟨n, ho⟩, hu, hs⟩, hc⟩

set_option maxRecDepth 100000 in
set_option maxHeartbeats 1000000 in
theorem tNew_any (w : World) : Calls Try.prog 9 #[] w fun r w' => ∃ q tb, r = .returned (.pointer (some ⟨q, 0, none⟩)) ∧ TbO w' q tb [] ∧ w.heap.size ≤ q ∧ w.heap.size ≤ tb ∧ Below w.heap.size w w' := by
  have hmm := @run_makeMap Try.prog
  have hown := World.ownsMap_made (H := Unit) w Try.prog 9 (plainElem (H := Unit) Try.prog 9)
  obtain ⟨w1, hw1⟩ : ∃ W, W = w.alloc (.map #[] 0) := ⟨_, rfl⟩
  have hb1 : Below w.heap.size w w1 := hw1 ▸ (Below.refl _ _).alloc (Nat.le_refl _) _
  obtain ⟨w2, hw2⟩ : ∃ W, W = w1.alloc (.cells #[.map (some w.heap.size)] 50) := ⟨_, rfl⟩
  have hb2 : Below w1.heap.size w1 w2 := hw2 ▸ (Below.refl _ _).alloc (Nat.le_refl _) _
  have hx : w2.heap[w1.heap.size]? = some (.cells #[.map (some w.heap.size)] 50 (0, 0)) := hw2 ▸ at_new _ _
  rw [← hw1] at hown
  have ho2 := own_below hown hb2
  have hs1 := hb1.size
  have key : ∃ q tb, Ending.returned (.pointer (some ⟨w1.heap.size, 0, none⟩)) = Ending.returned (.pointer (some ⟨q, 0, none⟩)) ∧ TbO w2 q tb [] ∧ w.heap.size ≤ q ∧ w.heap.size ≤ tb ∧ Below w.heap.size w w2 :=
    ⟨_, _, rfl, ⟨hx, ⟨0, ho2⟩, List.Pairwise.nil, by simp⟩, hs1, Nat.le_refl _, hb1.trans (hb2.mono hs1)⟩
  rw [hw2, hw1] at key
  replace key := Lib.hid key
  clear hx ho2 hown hb1 hb2 hs1
  subst hw2 hw1
  go_enter Try.func9, Try.ntmps9
  go_wp2
  go_ret
  obtain ⟨q, tb, e, h⟩ := key.out
  exact ⟨q, tb, Eq.trans (by simp) e, h⟩

set_option maxRecDepth 100000 in
set_option maxHeartbeats 1000000 in
theorem tWord_any (s : ByteArray) (m : Int) (w : World) (hs : s.size < 4294967281) (hm : w.cell? ⟨0, 0, none⟩ = some (.int .i64 m)) :
    Calls Try.prog 15 #[.string s] w fun r w' => r = .returned (.tuple #[.string (wordT s).1, .string (wordT s).2.1, .bool (wordT s).2.2]) ∧ Below w.heap.size w w' := by
  have hB := Lib.hid (Below.refl w.heap.size w)
  have h1 : Lib.indexB s ⟨#[61]⟩ = eqAt s := Lib.index_one _ _
  rcases eqAt_cases s with h | ⟨i, h, hi⟩
  · rw [h] at h1
    obtain ⟨e1, e2, e3⟩ := Lib.cutB_miss s _ h1
    have hw : wordT s = (ByteArray.empty, ByteArray.empty, false) := by unfold wordT; rw [h]; rfl
    rw [hw]
    replace hw := Lib.hid hw
    replace e1 := Lib.hid e1
    replace e2 := Lib.hid e2
    replace e3 := Lib.hid e3
    clear h1 h
    go_enter Try.func15, Try.ntmps15
    go_wp2_with fail
    refine (sCut_any s m w hs hm).mono ?_
    rintro r w1 ⟨rfl, n, rfl⟩
    rw [show (Lib.cut s.data.toList [61]).2.2 = false from e3.out]
    go_wp2
    exact bodyPost_ret (v := .tuple #[.string ByteArray.empty, .string ByteArray.empty, .bool false]) (by simp [results, Try.results15, go_sem]; rfl) rfl ⟨rfl, below_drewN hB.out _⟩
  · rw [h] at h1
    obtain ⟨e1, e2, e3⟩ := Lib.cutB_hit s _ i h1
    replace e1 := Lib.hid e1
    replace e2 := Lib.hid e2
    replace e3 := Lib.hid e3
    clear h1
    by_cases h0 : i = 0
    · have hw : wordT s = (ByteArray.empty, ByteArray.empty, false) := by unfold wordT; rw [h, h0]; rfl
      rw [hw]
      have hz : s.extract 0 i = ByteArray.empty := by rw [h0]; exact ba_ext (by simp)
      replace hw := Lib.hid hw
      replace hz := Lib.hid hz
      clear h h0
      go_enter Try.func15, Try.ntmps15
      go_wp2_with fail
      refine (sCut_any s m w hs hm).mono ?_
      rintro r w1 ⟨rfl, n, rfl⟩
      rw [show (Lib.cut s.data.toList [61]).2.2 = true from e3.out, show (⟨(Lib.cut s.data.toList [61]).1.toArray⟩ : ByteArray) = s.extract 0 i from e1.out, hz.out]
      go_wp2
      exact bodyPost_ret (v := .tuple #[.string ByteArray.empty, .string ByteArray.empty, .bool false]) (by simp [results, Try.results15, go_sem]; rfl) rfl ⟨rfl, below_drewN hB.out _⟩
    · have hw : wordT s = (s.extract 0 i, s.extract (i + 1) s.size, true) := by unfold wordT; rw [h, if_pos (by omega)]; rfl
      rw [hw]
      obtain ⟨a, ha⟩ : ∃ a, s.extract 0 i = a := ⟨_, rfl⟩
      obtain ⟨b, hb⟩ : ∃ b, s.extract (i + 1) s.size = b := ⟨_, rfl⟩
      have hne : ¬ a = ByteArray.empty := fun e => by
        have h2 : (s.extract 0 i).size = 0 := by rw [ha, e]; rfl
        rw [ByteArray.size_extract] at h2
        omega
      rw [ha, hb]
      have e1' : Hid ((⟨(Lib.cut s.data.toList [61]).1.toArray⟩ : ByteArray) = a) := Lib.hid (Eq.trans e1.out ha)
      have e2' : Hid ((⟨(Lib.cut s.data.toList [61]).2.1.toArray⟩ : ByteArray) = b) := Lib.hid (Eq.trans e2.out hb)
      clear e1 e2 hw h h0 ha hb
      have hd : a.toList.isEmpty = false := sNe hne
      go_enter Try.func15, Try.ntmps15
      go_wp2_with fail
      refine (sCut_any s m w hs hm).mono ?_
      rintro r w1 ⟨rfl, n, rfl⟩
      rw [show (Lib.cut s.data.toList [61]).2.2 = true from e3.out, e1'.out, e2'.out]
      go_wp2
      exact bodyPost_ret (v := .tuple #[.string a, .string b, .bool true]) (by simp [results, Try.results15, go_sem]) rfl ⟨rfl, below_drewN hB.out _⟩

set_option maxRecDepth 100000 in
set_option maxHeartbeats 1000000 in
theorem tGet_any (q tb : Nat) (L : Tb) (a : ByteArray) (w : World) (h : TbO w q tb L) (ha : a.size ≤ 1000) :
    Calls Try.prog 17 #[.pointer (some ⟨q, 0, none⟩), .string a] w fun r w' => r = .returned (.tuple #[.string (getT L a).1, .bool (getT L a).2]) ∧ w = w' := by
  have c0 := cell_at h.ptr 0
  simp only [List.getElem?_toArray, List.getElem?_cons_zero] at c0
  have hown := h.tight
  have hat := at_D L a
  have hhas := has_D L a
  clear h
  replace hat := Lib.hid hat
  replace hhas := Lib.hid hhas
  go_enter Try.func17, Try.ntmps17
  go_wp2_with (first
    | (at_lookup; refine wpList_lookup_own_ok _ rfl _ _ 48 rfl 9 9 sKeyed Try.underlying48 (plainElem (H := Unit) Try.prog 9) (by exact Try.zeroValue9 _) (.lit (.string [])) [] (by exact sElem (a := ByteArray.empty) (by decide)) tb _ _ rfl hown _ _ rfl (sKey ha) ?_; intro v ps hv))
  obtain ⟨c, rfl, hc, _⟩ := plainElem_string_inv Try.underlying9 hv
  have e := congrArg Prod.fst hc
  rw [hat.out] at e
  have hcc : (getT L a).1 = c := by
    simp only [DataW.lit.injEq, Lit.string.injEq] at e
    exact ba_ext e
  rw [hhas.out, hcc]
  clear hc e hcc hv hat hhas
  generalize (getT L a).2 = f
  go_wp2
  exact bodyPost_ret (v := .tuple #[.string c, .bool f]) (by simp [results, Try.results17, go_sem]) rfl ⟨rfl, rfl⟩

set_option maxRecDepth 100000 in
set_option maxHeartbeats 1000000 in
theorem tGet_nil (a : ByteArray) (w : World) : Calls Try.prog 17 #[.pointer none, .string a] w fun r w' => r = .returned (.tuple #[.string ByteArray.empty, .bool false]) ∧ w = w' := by
  go_enter Try.func17, Try.ntmps17
  go_wp2
  exact bodyPost_ret (v := .tuple #[.string ByteArray.empty, .bool false]) (by simp [results, Try.results17, go_sem]; rfl) rfl ⟨rfl, rfl⟩

/-- a row of strings of the call's own -/
def strsV (l : List (List UInt8)) : List Value := l.map fun s => .string ⟨s.toArray⟩

set_option maxHeartbeats 1000000 in
theorem tNames_any (q tb : Nat) (L : Tb) (w : World) (h : TbO w q tb L) (hl : L.length ≤ 1000) :
    Calls Try.prog 19 #[.pointer (some ⟨q, 0, none⟩)] w fun r w' => ∃ v, r = .returned v ∧ w'.ownsRow w.heap.size 9 1 v L.length (strsV (L.map nm)) ∧ Below w.heap.size w w' := by
  have c0 := cell_at h.ptr 0
  simp only [List.getElem?_toArray, List.getElem?_cons_zero] at c0
  have hown := h.tight
  have hks := fun (ss : List (List UInt8)) => keys_sorted (ss := ss) h.up
  have hmax : Maps.size (tblD L) ≤ maxLen := by rw [size_D]; unfold maxLen; omega
  have hbytes : Maps.size (tblD L) * 16 ≤ 140737488355328 := by rw [size_D]; omega
  have hlen : ∀ ss : List (List UInt8), ss.Perm (strKeys (tblD L)) → ss.length = L.length := fun ss hp => by rw [hp.length_eq, keys_D, List.length_map]
  clear h
  replace hks := Lib.hid hks
  replace hlen := Lib.hid hlen
  refine (callsIn_wide (n := 6)).1 ?_
  have hfK : Fence.wide.fn 28 := trivial
  have hfS : Fence.wide.fn 27 := trivial
  refine callsIn_of_wp Try.func19 rfl trivial ?_ rfl
  simp only [Try.ntmps19, List.size_toArray, List.length_cons, List.length_nil, Nat.reduceAdd, Nat.reduceSub, Array.replicate_succ, Array.replicate_zero, List.push_toArray, List.append_toArray, List.nil_append, List.cons_append]
  gi_wp2_with (first
    | (gi_at_call 28; refine (mKeys_any _ _).mono ?_; rintro e w' ⟨rfl, rfl⟩)
    | (gi_at_call 27; refine (sSorted_any tb L.length (tblD L) (plainElem (H := Unit) Try.prog 9) w hown hmax hbytes).mono ?_; rintro e w' ⟨v, ss, rfl, hS, hrow, hnil, hb⟩))
  rw [hks.out ss hS, hlen.out ss hS] at hrow
  go_ret
  exact ⟨v, rfl, Go.Proofs.ownsRow_base_a hrow (by simp), ((Below.refl _ w).alloc (Nat.le_refl _) _).trans (hb.mono (by simp))⟩

set_option maxRecDepth 100000 in
set_option maxHeartbeats 1000000 in
theorem tNames_nil (w : World) : Calls Try.prog 19 #[.pointer none] w fun r w' => r = .returned (.slice none 0 0) ∧ w = w' := by
  go_enter Try.func19, Try.ntmps19
  go_wp2
  go_ret
  exact ⟨rfl, rfl⟩
end Go.Proofs.Ytbmldiklgkojnaa
