/- Contracts: who has how much is told, asked, counted. -/
import Derived.Test.YtimffflhfaiakaaQnA
namespace Go.Proofs.Ytimffflhfaiakaa
open Go.RowKit
set_option linter.unusedVariables false

abbrev z8 : List Int := [0, 0, 0, 0, 0, 0, 0, 0]
set_option maxRecDepth 100000 in
set_option maxHeartbeats 1000000 in
theorem qNew_ok (n mem me : Int) (w : World) (hm : mostT mem n = true) (hme : hasT mem.toNat me = true) :
    Calls Try.prog 24 #[.int .i64 n, .int .i64 mem, .int .i64 me] w fun r w' => r = .returned (.pointer (some ⟨w.heap.size, 0, none⟩)) ∧ qO w' w.heap.size n mem me z8 z8 0 ∧ Below w.heap.size w w' := by
  have hb : 0 ≤ mem ∧ mem < 128 := mayT_lt (by simp only [mostT, Bool.and_eq_true] at hm; exact hm.1)
  replace hm := Lib.hid hm
  replace hme := Lib.hid hme
  go_enter Try.func24, Try.ntmps24
  go_wp2_with fail
  refine (most_any mem n _).mono ?_
  rintro r w2 ⟨rfl, rfl⟩
  rw [hm.out]
  go_wp2_with fail
  refine (has_any mem me _ hb).mono ?_
  rintro r w2 ⟨rfl, rfl⟩
  rw [hme.out]
  go_wp2
  go_ret
  exact ⟨rfl, ⟨at_new _ _, rfl, rfl⟩, (Below.refl _ _).alloc (Nat.le_refl _) _⟩
set_option maxRecDepth 100000 in
theorem qNew_no (n mem me : Int) (w : World) (hm : mostT mem n = false) :
    Calls Try.prog 24 #[.int .i64 n, .int .i64 mem, .int .i64 me] w fun r w' => r = .returned (.pointer none) ∧ w = w' := by
  replace hm := Lib.hid hm
  go_enter Try.func24, Try.ntmps24
  go_wp2_with fail
  refine (most_any mem n _).mono ?_
  rintro r w2 ⟨rfl, rfl⟩
  rw [hm.out]
  go_wp2
  go_ret
  exact ⟨rfl, rfl⟩
set_option maxRecDepth 100000 in
theorem qNew_no2 (n mem me : Int) (w : World) (hm : mostT mem n = true) (hme : hasT mem.toNat me = false) :
    Calls Try.prog 24 #[.int .i64 n, .int .i64 mem, .int .i64 me] w fun r w' => r = .returned (.pointer none) ∧ w = w' := by
  have hb : 0 ≤ mem ∧ mem < 128 := mayT_lt (by simp only [mostT, Bool.and_eq_true] at hm; exact hm.1)
  replace hm := Lib.hid hm
  replace hme := Lib.hid hme
  go_enter Try.func24, Try.ntmps24
  go_wp2_with fail
  refine (most_any mem n _).mono ?_
  rintro r w2 ⟨rfl, rfl⟩
  rw [hm.out]
  go_wp2_with fail
  refine (has_any mem me _ hb).mono ?_
  rintro r w2 ⟨rfl, rfl⟩
  rw [hme.out]
  go_wp2
  go_ret
  exact ⟨rfl, rfl⟩

set_option maxRecDepth 100000 in
theorem qhas_any (b : Nat) (n mem me : Int) (H P : List Int) (last id : Int) (w : World) (hq : qO w b n mem me H P last) (hm : 0 ≤ mem ∧ mem < 128) :
    Calls Try.prog 44 #[.pointer (some ⟨b, 0, none⟩), .int .i64 id] w fun r w' => r = .returned (.bool (hasT mem.toNat id)) ∧ w = w' := by
  have e1 := cell_at hq.1 1
  rw [show (qC n mem me H P last)[1]? = some (.int .i64 mem) from rfl] at e1
  replace hq := Lib.hid hq
  go_enter Try.func44, Try.ntmps44
  go_wp2_with fail
  refine (has_any mem id _ hm).mono ?_
  rintro r w2 ⟨rfl, rfl⟩
  go_wp2
  go_ret
  exact ⟨rfl, rfl⟩

set_option maxRecDepth 100000 in
set_option maxHeartbeats 1000000 in
theorem qAck_no (b : Nat) (n mem me : Int) (H P : List Int) (last id hv pr : Int) (w : World) (hq : qO w b n mem me H P last) (hm : 0 ≤ mem ∧ mem < 128) (hno : (hasT mem.toNat id && decide (0 ≤ hv) && decide (hv ≤ 60)) = false) :
    Calls Try.prog 27 #[.pointer (some ⟨b, 0, none⟩), .int .i64 id, .int .i64 hv, .int .i64 pr] w fun r w' => r = .returned (.bool false) ∧ w = w' := by
  cases hid : hasT mem.toNat id
  · replace hid := Lib.hid hid
    go_enter Try.func27, Try.ntmps27
    go_wp2_with fail
    refine (qhas_any b n mem me H P last id _ hq hm).mono ?_
    rintro r w2 ⟨rfl, rfl⟩
    rw [hid.out]
    go_wp2
    go_ret
    exact ⟨rfl, rfl⟩
  · rw [hid] at hno
    replace hid := Lib.hid hid
    by_cases c1 : hv < 0
    · clear hno
      go_enter Try.func27, Try.ntmps27
      go_wp2_with fail
      refine (qhas_any b n mem me H P last id _ hq hm).mono ?_
      rintro r w2 ⟨rfl, rfl⟩
      rw [hid.out]
      go_wp2
      go_ret
      exact ⟨rfl, rfl⟩
    · have c2 : 60 < hv := by simp at hno; omega
      clear hno
      go_enter Try.func27, Try.ntmps27
      go_wp2_with fail
      refine (qhas_any b n mem me H P last id _ hq hm).mono ?_
      rintro r w2 ⟨rfl, rfl⟩
      rw [hid.out]
      go_wp2
      go_ret
      exact ⟨rfl, rfl⟩

def ackP (P : List Int) (id : Nat) (pr last : Int) : List Int := if pr ≤ last then P.set id (max (P.getD id 0) pr) else P
set_option maxRecDepth 100000 in
set_option maxHeartbeats 4000000 in
theorem qAck_yes (b : Nat) (n mem me : Int) (H P : List Int) (last : Int) (id : Nat) (hv pr : Int) (w : World) (hq : qO w b n mem me H P last) (hm : 0 ≤ mem ∧ mem < 128) (hid : hasT mem.toNat id = true) (hi1 : 1 ≤ id) (hi7 : id ≤ 7) (hv0 : 0 ≤ hv) (hv60 : hv ≤ 60) :
    Calls Try.prog 27 #[.pointer (some ⟨b, 0, none⟩), .int .i64 id, .int .i64 hv, .int .i64 pr] w fun r w' => r = .returned (.bool true) ∧
      qO w' b n mem me (H.set id (max (H.getD id 0) hv)) (ackP P id pr last) last ∧ Chg (fun k => k = b) w w' := by
  obtain ⟨x, hx⟩ : ∃ x, H.getD id 0 = x := ⟨_, rfl⟩
  obtain ⟨y, hy⟩ : ∃ y, P.getD id 0 = y := ⟨_, rfl⟩
  rw [hx]
  replace hid := Lib.hid hid
  have e3 := cell_at hq.1 (3 + id)
  rw [qC_H hq.2.1 hq.2.2 (by omega), hx] at e3
  have z3 := free_at hq.1 (3 + id)
  have hbl := at_lt hq.1
  have hi8 : id < 8 := by omega
  have hset := set_at (o := 3 + id) (u := .int .i64 (max x hv)) hq.1
  rw [qC_setH hq.2.1 hq.2.2 (by omega)] at hset
  have hq3 : qO (w.setCell ⟨b, 3 + id, none⟩ (.int .i64 (max x hv))).drew b n mem me (H.set id (max x hv)) P last := ⟨hset, by rw [List.length_set]; exact hq.2.1, hq.2.2⟩
  have hc3 : Chg (fun k => k = b) w (w.setCell ⟨b, 3 + id, none⟩ (.int .i64 (max x hv))).drew := (chg_set (F := fun k => k = b) (Chg.refl _ _) rfl).on ((Below.refl _ _).drew)
  replace hq3 := Lib.hid hq3
  replace hc3 := Lib.hid hc3
  replace hx := Lib.hid hx
  replace hy := Lib.hid hy
  replace hq := Lib.hid hq
  clear hset
  go_enter Try.func27, Try.ntmps27
  go_wp2_with fail
  refine (qhas_any b n mem me H P last id _ hq.out hm).mono ?_
  rintro r w2 ⟨rfl, rfl⟩
  rw [hid.out]
  go_upto_region 3 with (fail)
  go_region
  clear e3 z3
  generalize (World.setCell w _ _).drew = w3 at hq3 hc3 ⊢
  have e19 := cell_at hq3.out.1 19
  rw [qC_last hq3.out.2.1 hq3.out.2.2] at e19
  have hbl3 := at_lt hq3.out.1
  by_cases hp : pr ≤ last
  · have hpH := Lib.hid hp
    have e11 := cell_at hq3.out.1 (11 + id)
    rw [qC_P hq3.out.2.1 hq3.out.2.2 (by omega), hy.out] at e11
    have z11 := free_at hq3.out.1 (11 + id)
    have hset := set_at (o := 11 + id) (u := .int .i64 (max y pr)) hq3.out.1
    rw [qC_setP hq3.out.2.1 hq3.out.2.2 (by omega)] at hset
    have hq5 : qO (w3.setCell ⟨b, 11 + id, none⟩ (.int .i64 (max y pr))).drew b n mem me (H.set id (max x hv)) (P.set id (max y pr)) last := ⟨hset, hq3.out.2.1, by rw [List.length_set]; exact hq3.out.2.2⟩
    have hc5 : Chg (fun k => k = b) w (w3.setCell ⟨b, 11 + id, none⟩ (.int .i64 (max y pr))).drew := (chg_set (F := fun k => k = b) hc3.out rfl).on ((Below.refl _ _).drew)
    replace hq5 := Lib.hid hq5
    replace hc5 := Lib.hid hc5
    clear hset
    go_upto_region 5 with (fail)
    go_region
    go_wp2
    go_ret
    exact ⟨rfl, by rw [ackP, if_pos hpH.out, hy.out]; exact hq5.out, hc5.out⟩
  · have hpH := Lib.hid hp
    go_wp2
    go_ret
    exact ⟨rfl, by rw [ackP, if_neg (by have := hpH.out; omega)]; exact hq3.out, hc3.out⟩

set_option maxRecDepth 100000 in
theorem qLast_any (b : Nat) (n mem me : Int) (H P : List Int) (last : Int) (w : World) (hq : qO w b n mem me H P last) :
    Calls Try.prog 35 #[.pointer (some ⟨b, 0, none⟩)] w fun r w' => r = .returned (.int .i64 last) ∧ w = w' := by
  have e19 := cell_at hq.1 19
  rw [qC_last hq.2.1 hq.2.2] at e19
  replace hq := Lib.hid hq
  go_enter Try.func35, Try.ntmps35
  go_wp2
  go_ret
  exact ⟨rfl, rfl⟩
set_option maxRecDepth 100000 in
theorem qHave_yes (b : Nat) (n mem me : Int) (H P : List Int) (last : Int) (id : Nat) (w : World) (hq : qO w b n mem me H P last) (hm : 0 ≤ mem ∧ mem < 128) (hid : hasT mem.toNat id = true) (hi7 : id ≤ 7) :
    Calls Try.prog 36 #[.pointer (some ⟨b, 0, none⟩), .int .i64 id] w fun r w' => r = .returned (.int .i64 (H.getD id 0)) ∧ w = w' := by
  obtain ⟨x, hx⟩ : ∃ x, H.getD id 0 = x := ⟨_, rfl⟩
  rw [hx]
  have e3 := cell_at hq.1 (3 + id)
  rw [qC_H hq.2.1 hq.2.2 (by omega), hx] at e3
  have hi8 : id < 8 := by omega
  have hqh := Lib.hid hq
  replace hx := Lib.hid hx
  replace hid := Lib.hid hid
  clear hq
  go_enter Try.func36, Try.ntmps36
  go_wp2_with fail
  refine (qhas_any b n mem me H P last id _ hqh.out hm).mono ?_
  rintro r w2 ⟨rfl, rfl⟩
  rw [hid.out]
  go_wp2
  go_ret
  exact ⟨rfl, rfl⟩
set_option maxRecDepth 100000 in
theorem qHave_no (b : Nat) (n mem me : Int) (H P : List Int) (last id : Int) (w : World) (hq : qO w b n mem me H P last) (hm : 0 ≤ mem ∧ mem < 128) (hid : hasT mem.toNat id = false) :
    Calls Try.prog 36 #[.pointer (some ⟨b, 0, none⟩), .int .i64 id] w fun r w' => r = .returned (.int .i64 0) ∧ w = w' := by
  replace hid := Lib.hid hid
  go_enter Try.func36, Try.ntmps36
  go_wp2_with fail
  refine (qhas_any b n mem me H P last id _ hq hm).mono ?_
  rintro r w2 ⟨rfl, rfl⟩
  rw [hid.out]
  go_wp2
  go_ret
  exact ⟨rfl, rfl⟩

set_option maxRecDepth 100000 in
set_option maxHeartbeats 2000000 in
theorem qNext_any (b : Nat) (n mem me : Int) (H P : List Int) (last : Int) (m : Nat) (w : World) (hq : qO w b n mem me H P last) (hme : me = m) (hm7 : m ≤ 7) (hl0 : 0 ≤ last) (hl : last < 4611686018427387904) :
    Calls Try.prog 29 #[.pointer (some ⟨b, 0, none⟩)] w fun r w' => r = .returned (.int .i64 (last + 1)) ∧ qO w' b n mem me H (P.set m (last + 1)) (last + 1) ∧ Chg (fun k => k = b) w w' := by
  have e19 := cell_at hq.1 19
  rw [qC_last hq.2.1 hq.2.2] at e19
  have z19 := free_at hq.1 19
  have hbl := at_lt hq.1
  have hset := set_at (o := 19) (u := .int .i64 (last + 1)) hq.1
  rw [qC_setL hq.2.1 hq.2.2] at hset
  have hq3 : qO (w.setCell ⟨b, 19, none⟩ (.int .i64 (last + 1))) b n mem me H P (last + 1) := ⟨hset, hq.2⟩
  have hc3 : Chg (fun k => k = b) w (w.setCell ⟨b, 19, none⟩ (.int .i64 (last + 1))) := chg_set (Chg.refl _ _) rfl
  replace hq3 := Lib.hid hq3
  replace hc3 := Lib.hid hc3
  replace hq := Lib.hid hq
  clear hset
  go_enter Try.func29, Try.ntmps29
  go_upto_region 4 with (fail)
  clear e19 z19
  generalize World.setCell w _ _ = w3 at hq3 hc3 ⊢
  have e19 := cell_at hq3.out.1 19
  rw [qC_last hq3.out.2.1 hq3.out.2.2] at e19
  have e2 := cell_at hq3.out.1 2
  rw [show (qC n mem me H P (last + 1))[2]? = some (.int .i64 me) from rfl, hme] at e2
  have hbl3 := at_lt hq3.out.1
  have hm8 : m < 8 := by omega
  have e11 := cell_at hq3.out.1 (11 + m)
  rw [qC_P hq3.out.2.1 hq3.out.2.2 (by omega)] at e11
  have z11 := free_at hq3.out.1 (11 + m)
  have hset := set_at (o := 11 + m) (u := .int .i64 (last + 1)) hq3.out.1
  rw [qC_setP hq3.out.2.1 hq3.out.2.2 (by omega)] at hset
  have hq5 : qO (w3.setCell ⟨b, 11 + m, none⟩ (.int .i64 (last + 1))).drew b n mem me H (P.set m (last + 1)) (last + 1) := ⟨hset, hq3.out.2.1, by rw [List.length_set]; exact hq3.out.2.2⟩
  have hc5 : Chg (fun k => k = b) w (w3.setCell ⟨b, 11 + m, none⟩ (.int .i64 (last + 1))).drew := (chg_set (F := fun k => k = b) hc3.out rfl).on ((Below.refl _ _).drew)
  replace hq5 := Lib.hid hq5
  replace hc5 := Lib.hid hc5
  replace hme := Lib.hid hme
  clear hset
  generalize P.getD m 0 = y at e11
  go_region
  clear e19 e2 e11 z11
  generalize (World.setCell w3 _ _).drew = w5 at hq5 hc5 ⊢
  have e19 := cell_at hq5.out.1 19
  rw [qC_last hq5.out.2.1 hq5.out.2.2] at e19
  go_wp2
  go_ret
  exact ⟨rfl, hq5.out, hc5.out⟩

set_option maxRecDepth 100000 in
theorem qCommit_any (b : Nat) (n mem me : Int) (H P : List Int) (last : Int) (w : World) (hq : qO w b n mem me H P last) (hn : 3 ≤ n) (hn7 : n ≤ 7) :
    Calls Try.prog 31 #[.pointer (some ⟨b, 0, none⟩)] w fun r w' => r = .returned (.int .i64 (medS H n.toNat)) ∧ Below w.heap.size w w' := by
  have hqh := Lib.hid hq
  obtain ⟨hb, hH, hP⟩ := hq
  obtain ⟨h0, h1, h2, h3, h4, h5, h6, h7, rfl⟩ := eight H hH
  have e3 := cell_at hb 3
  have e4 := cell_at hb 4
  have e5 := cell_at hb 5
  have e6 := cell_at hb 6
  have e7 := cell_at hb 7
  have e8 := cell_at hb 8
  have e9 := cell_at hb 9
  have e10 := cell_at hb 10
  simp only [qC, List.map_cons, List.map_nil, List.cons_append, List.nil_append, List.getElem?_toArray, List.getElem?_cons_zero, List.getElem?_cons_succ] at e3 e4 e5 e6 e7 e8 e9 e10
  clear hb hH hP
  go_enter Try.func31, Try.ntmps31
  go_wp2_with fail
  refine (qmost_any b n mem me _ P last h0 h1 h2 h3 h4 h5 h6 h7 _ hqh.out hn hn7).mono ?_
  rintro r w2 ⟨rfl, hb2⟩
  go_wp2
  go_ret
  exact ⟨rfl, hb2⟩
set_option maxRecDepth 100000 in
theorem qProbe_any (b : Nat) (n mem me : Int) (H P : List Int) (last : Int) (w : World) (hq : qO w b n mem me H P last) (hn : 3 ≤ n) (hn7 : n ≤ 7) :
    Calls Try.prog 33 #[.pointer (some ⟨b, 0, none⟩)] w fun r w' => r = .returned (.int .i64 (medS P n.toNat)) ∧ Below w.heap.size w w' := by
  have hqh := Lib.hid hq
  obtain ⟨hb, hH, hP⟩ := hq
  obtain ⟨g0, g1, g2, g3, g4, g5, g6, g7, rfl⟩ := eight H hH
  obtain ⟨h0, h1, h2, h3, h4, h5, h6, h7, rfl⟩ := eight P hP
  have e3 := cell_at hb 11
  have e4 := cell_at hb 12
  have e5 := cell_at hb 13
  have e6 := cell_at hb 14
  have e7 := cell_at hb 15
  have e8 := cell_at hb 16
  have e9 := cell_at hb 17
  have e10 := cell_at hb 18
  simp only [qC, List.map_cons, List.map_nil, List.cons_append, List.nil_append, List.getElem?_toArray, List.getElem?_cons_zero, List.getElem?_cons_succ] at e3 e4 e5 e6 e7 e8 e9 e10
  clear hb hH hP
  go_enter Try.func33, Try.ntmps33
  go_wp2_with fail
  refine (qmost_any b n mem me _ _ last h0 h1 h2 h3 h4 h5 h6 h7 _ hqh.out hn hn7).mono ?_
  rintro r w2 ⟨rfl, hb2⟩
  go_wp2
  go_ret
  exact ⟨rfl, hb2⟩

/-! no quorum at all -/
set_option maxRecDepth 100000 in
theorem qhas_nil (id : Int) (w : World) : Calls Try.prog 44 #[.pointer none, .int .i64 id] w fun r w' => r = .returned (.bool false) ∧ w = w' := by
  go_enter Try.func44, Try.ntmps44
  go_wp2
  go_ret
  exact ⟨rfl, rfl⟩
set_option maxRecDepth 100000 in
theorem qAck_nil (id hv pr : Int) (w : World) : Calls Try.prog 27 #[.pointer none, .int .i64 id, .int .i64 hv, .int .i64 pr] w fun r w' => r = .returned (.bool false) ∧ w = w' := by
  go_enter Try.func27, Try.ntmps27
  go_wp2_with fail
  refine (qhas_nil id _).mono ?_
  rintro r w2 ⟨rfl, rfl⟩
  go_wp2
  go_ret
  exact ⟨rfl, rfl⟩
set_option maxRecDepth 100000 in
theorem qHave_nil (id : Int) (w : World) : Calls Try.prog 36 #[.pointer none, .int .i64 id] w fun r w' => r = .returned (.int .i64 0) ∧ w = w' := by
  go_enter Try.func36, Try.ntmps36
  go_wp2_with fail
  refine (qhas_nil id _).mono ?_
  rintro r w2 ⟨rfl, rfl⟩
  go_wp2
  go_ret
  exact ⟨rfl, rfl⟩

set_option maxRecDepth 100000 in
theorem qCommit_nil (w : World) : Calls Try.prog 31 #[.pointer none] w fun r w' => r = .returned (.int .i64 0) ∧ w = w' := by
  go_enter Try.func31, Try.ntmps31
  go_wp2
  go_ret
  exact ⟨rfl, rfl⟩
set_option maxRecDepth 100000 in
theorem qProbe_nil (w : World) : Calls Try.prog 33 #[.pointer none] w fun r w' => r = .returned (.int .i64 0) ∧ w = w' := by
  go_enter Try.func33, Try.ntmps33
  go_wp2
  go_ret
  exact ⟨rfl, rfl⟩
set_option maxRecDepth 100000 in
theorem qNext_nil (w : World) : Calls Try.prog 29 #[.pointer none] w fun r w' => r = .returned (.int .i64 0) ∧ w = w' := by
  go_enter Try.func29, Try.ntmps29
  go_wp2
  go_ret
  exact ⟨rfl, rfl⟩
set_option maxRecDepth 100000 in
theorem qLast_nil (w : World) : Calls Try.prog 35 #[.pointer none] w fun r w' => r = .returned (.int .i64 0) ∧ w = w' := by
  go_enter Try.func35, Try.ntmps35
  go_wp2
  go_ret
  exact ⟨rfl, rfl⟩
end Go.Proofs.Ytimffflhfaiakaa
