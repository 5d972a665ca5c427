/- Contract: a table does what an entry says. -/
import Derived.Test.YtbmldiklgkojnaaTbA
namespace Go.Proofs.Ytbmldiklgkojnaa
open Go.RowKit Go.Maps
set_option linter.unusedVariables false

def okDo (e : Ent) : Bool := (wordT e.data).2.2 && mayE e
def nextT (L : Tb) (e : Ent) : Tb := if okDo e = true then doT L (wordT e.data).1 (wordT e.data).2.1 else L
theorem mayE_data {e : Ent} (h : mayE e = true) : e.data.size ≤ 16 := by
  rw [mayE_in] at h
  simp only [Bool.and_eq_true, decide_eq_true_eq] at h
  omega
theorem next_len (L : Tb) (e : Ent) : (nextT L e).length ≤ L.length + 1 := by
  unfold nextT
  split
  · exact do_len _ _ _
  · omega
theorem next_up {L : Tb} (h : UpT L) (e : Ent) : UpT (nextT L e) := by
  unfold nextT
  split
  · exact do_up h
  · exact h
theorem next_small {L : Tb} (h : ∀ p ∈ L, p.1.size ≤ 16 ∧ p.2.size ≤ 16) (e : Ent) : ∀ p ∈ nextT L e, p.1.size ≤ 16 ∧ p.2.size ≤ 16 := by
  unfold nextT
  split
  · rename_i hk
    unfold okDo at hk
    have h16 := mayE_data (Bool.and_eq_true_iff.1 hk).2
    have hz := wordT_size e.data
    exact do_small h (by omega) (by omega)
  · exact h

set_option maxRecDepth 100000 in
set_option maxHeartbeats 4000000 in
theorem tDo_any (q tb : Nat) (L : Tb) (e : Ent) (m : Int) (w : World) (h : TbO w q tb L) (hl : L.length ≤ 1000) (hm : w.cell? ⟨0, 0, none⟩ = some (.int .i64 m)) (hs : e.data.size < 4294967281) :
    Calls Try.prog 11 #[.pointer (some ⟨q, 0, none⟩), e.val] w fun r w' => r = .returned (.bool (okDo e)) ∧ TbO w' q tb (nextT L e) ∧ Chg (fun j => j = tb) w w' := by
  obtain ⟨wa, hwa⟩ : ∃ W, W = w.alloc (.cells e.cells.toArray 32) := ⟨_, rfl⟩
  have hba : Below w.heap.size w wa := hwa ▸ (Below.refl _ _).alloc (Nat.le_refl _) _
  have hx : wa.heap[w.heap.size]? = some (.cells e.cells.toArray 32 (0, 0)) := hwa ▸ at_new _ _
  obtain ⟨nE, hnE⟩ : ∃ n, n = w.heap.size := ⟨_, rfl⟩
  rw [← hnE] at hx
  have hma : wa.cell? ⟨0, 0, none⟩ = some (.int .i64 m) := by rw [hba.cell (cell_lt hm)]; exact hm
  have ha := Lib.hid (h.grow hba)
  have hB := Lib.hid hba
  have hmay := emay_any e
  have hok : okDo e = ((wordT e.data).2.2 && mayE e) := rfl
  have hnx : nextT L e = if okDo e = true then doT L (wordT e.data).1 (wordT e.data).2.1 else L := rfl
  have hup := next_up h.up e
  have hsm := next_small h.small e
  have hmd := @mayE_data e
  have hwz := wordT_size e.data
  have hW := fun w' hm' => tWord_any e.data m w' hs hm'
  clear h hba
  obtain ⟨a1, a2, a3, a4, a5, a6, s⟩ := e
  simp only [Ent.val] at hmay ⊢
  dsimp only at hok hnx hmd hwz hW hs
  obtain ⟨⟨a, b, k⟩, hwd⟩ : ∃ x, wordT s = x := ⟨_, rfl⟩
  rw [hwd] at hok hnx hwz hW
  obtain ⟨my, hmy⟩ : ∃ x, mayE (⟨a1, a2, a3, a4, a5, a6, s⟩ : Ent) = x := ⟨_, rfl⟩
  rw [hmy] at hok hmd hmay
  dsimp only at hok hnx hwz hW
  generalize nextT L ⟨a1, a2, a3, a4, a5, a6, s⟩ = L' at hnx hup hsm ⊢
  generalize okDo ⟨a1, a2, a3, a4, a5, a6, s⟩ = ok at hok hnx ⊢
  subst hok
  clear hwd hmy
  replace hx := Lib.hid hx
  replace hnx := Lib.hid hnx
  replace hup := Lib.hid hup
  replace hsm := Lib.hid hsm
  replace hmd := Lib.hid hmd
  replace hW := Lib.hid hW
  replace hmay := Lib.hid hmay
  have c0 := cell_at hx.out 0
  have c1 := cell_at hx.out 1
  have c2 := cell_at hx.out 2
  have c3 := cell_at hx.out 3
  have c4 := cell_at hx.out 4
  have c5 := cell_at hx.out 5
  have c6 := cell_at hx.out 6
  simp only [List.getElem?_toArray, List.getElem?_cons_zero, List.getElem?_cons_succ] at c0 c1 c2 c3 c4 c5 c6
  go_enter Try.func11, Try.ntmps11
  go_upto_region 1 with (fail)
  rw [← hwa, ← hnE]
  clear hwa
  replace hnE := Lib.hid hnE
  go_wp2_with fail
  refine (hW.out _ hma).mono ?_
  rintro r w2 ⟨rfl, hb2⟩
  clear c0 c1 c2 c3 c4 c5 c6
  replace hx := Lib.hid (at_below hx.out hb2)
  replace ha := Lib.hid (ha.out.grow hb2)
  replace hB := Lib.hid (hB.out.trans (hb2.mono hB.out.size))
  clear hb2 hma hW
  have c0 := cell_at hx.out 0
  have c1 := cell_at hx.out 1
  have c2 := cell_at hx.out 2
  have c3 := cell_at hx.out 3
  have c4 := cell_at hx.out 4
  have c5 := cell_at hx.out 5
  have c6 := cell_at hx.out 6
  simp only [List.getElem?_toArray, List.getElem?_cons_zero, List.getElem?_cons_succ] at c0 c1 c2 c3 c4 c5 c6
  cases k with
  | false =>
    have hL : Hid (L' = L) := Lib.hid (by rw [hnx.out]; rfl)
    go_wp2
    go_ret
    exact ⟨rfl, by rw [hL.out]; exact ha.out, .of_below hB.out⟩
  | true =>
    go_wp2_with fail
    refine (hmay.out _).mono ?_
    rintro r w3 ⟨rfl, hb3⟩
    clear c0 c1 c2 c3 c4 c5 c6
    replace ha := Lib.hid (ha.out.grow hb3)
    replace hB := Lib.hid (hB.out.trans (hb3.mono hB.out.size))
    clear hb3 hx
    cases my with
    | false =>
      have hL : Hid (L' = L) := Lib.hid (by rw [hnx.out]; rfl)
      go_wp2
      go_ret
      exact ⟨rfl, by rw [hL.out]; exact ha.out, .of_below hB.out⟩
    | true =>
      have h16 := hmd.out rfl
      have hz1 : a.size ≤ 1000 := by omega
      have hz2 : b.size ≤ 1000 := by omega
      have c0 := cell_at ha.out.ptr 0
      simp only [List.getElem?_toArray, List.getElem?_cons_zero] at c0
      have hown := ha.out.tight
      by_cases hb0 : b = ByteArray.empty
      · subst hb0
        have hL : Hid (L' = delT a L) := Lib.hid (by rw [hnx.out]; rfl)
        have hd := sNil
        have hD := Lib.hid (del_D L a)
        go_wp2_with (first
          | (at_delete; refine wpList_delete_own _ rfl _ _ 48 9 rfl 9 sKeyed Try.underlying48 _ tb _ _ rfl hown _ _ rfl (sKey hz1) ?_; intro w5 hown5 hturn5))
        rw [hD.out, ← hL.out] at hown5
        go_ret
        have ht := ha.out.turn hturn5 hown5 hup.out hsm.out
        exact ⟨rfl, ht.1, (Chg.of_below hB.out).more ht.2 (fun i hi => .inl hi)⟩
      · have hL : Hid (L' = insT a b (delT a L)) := Lib.hid (by
          rw [hnx.out, if_pos (show (true && true) = true from rfl)]
          unfold doT
          rw [if_neg (fun e => hb0 (ba_ext (by rw [List.length_eq_zero_iff.1 ((size_len b).trans e)]; rfl)))])
        have hd := sNe hb0
        have hD := Lib.hid (put_D L a b)
        have hlm : L.length < maxLen := by unfold maxLen; omega
        clear hb0
        go_wp2_with (first
          | (at_mapUpdate; refine wpList_mapUpdate_in _ rfl _ _ _ 48 rfl 9 9 sKeyed Try.underlying48 _ tb _ _ rfl hown hlm _ _ _ rfl rfl (sKey hz1) _ [] (sElem hz2) ?_; intro w5 hown5 hturn5))
        rw [hD.out, ← hL.out] at hown5
        go_ret
        have ht := ha.out.turn hturn5 hown5 hup.out hsm.out
        exact ⟨rfl, ht.1, (Chg.of_below hB.out).more ht.2 (fun i hi => .inl hi)⟩

set_option maxRecDepth 100000 in
set_option maxHeartbeats 1000000 in
theorem tDo_nil (e : Ent) (m : Int) (w : World) (hm : w.cell? ⟨0, 0, none⟩ = some (.int .i64 m)) (hs : e.data.size < 4294967281) :
    Calls Try.prog 11 #[.pointer none, e.val] w fun r w' => r = .returned (.bool false) ∧ Below w.heap.size w w' := by
  obtain ⟨wa, hwa⟩ : ∃ W, W = w.alloc (.cells e.cells.toArray 32) := ⟨_, rfl⟩
  have hba : Below w.heap.size w wa := hwa ▸ (Below.refl _ _).alloc (Nat.le_refl _) _
  have hx : wa.heap[w.heap.size]? = some (.cells e.cells.toArray 32 (0, 0)) := hwa ▸ at_new _ _
  obtain ⟨nE, hnE⟩ : ∃ n, n = w.heap.size := ⟨_, rfl⟩
  rw [← hnE] at hx
  have hma : wa.cell? ⟨0, 0, none⟩ = some (.int .i64 m) := by rw [hba.cell (cell_lt hm)]; exact hm
  have hB := Lib.hid hba
  have hW := fun w' hm' => tWord_any e.data m w' hs hm'
  obtain ⟨a1, a2, a3, a4, a5, a6, s⟩ := e
  simp only [Ent.val]
  dsimp only at hW hs
  generalize wordT s = x at hW
  obtain ⟨a, b, k⟩ := x
  dsimp only at hW
  have c6 := cell_at hx 6
  simp only [List.getElem?_toArray, List.getElem?_cons_zero, List.getElem?_cons_succ] at c6
  replace hW := Lib.hid hW
  clear hba hx
  go_enter Try.func11, Try.ntmps11
  go_upto_region 1 with (fail)
  rw [← hwa, ← hnE]
  clear hwa
  replace hnE := Lib.hid hnE
  go_wp2_with fail
  refine (hW.out _ hma).mono ?_
  rintro r w2 ⟨rfl, hb2⟩
  replace hB := Lib.hid (hB.out.trans (hb2.mono hB.out.size))
  clear hb2 hma hW c6
  go_wp2
  go_ret
  exact ⟨rfl, hB.out⟩
end Go.Proofs.Ytbmldiklgkojnaa
