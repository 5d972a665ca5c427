/- Contracts: the reference's count of who has how much; that both are one (plain). -/
import Derived.Test.YtimffflhfaiakaaQnQ
namespace Go.Proofs.Ytimffflhfaiakaa
open Go.RowKit
set_option linter.unusedVariables false

/-- the reference's count, in memory -/
def rO (w : World) (b : Nat) (n mem me : Int) (H P : List Int) (last : Int) : Prop :=
  w.heap[b]? = some (.cells (qC n mem me H P last) 54 (0, 0)) ∧ H.length = 8 ∧ P.length = 8
theorem rO.below {w w' : World} {b : Nat} {n mem me : Int} {H P : List Int} {last : Int} (h : rO w b n mem me H P last) (hb : Below w.heap.size w w') : rO w' b n mem me H P last := ⟨at_below h.1 hb, h.2⟩
theorem rO.chg {w w' : World} {F : Nat → Prop} {b : Nat} {n mem me : Int} {H P : List Int} {last : Int} (h : rO w b n mem me H P last) (hc : Chg F w w') (hF : ¬ F b) : rO w' b n mem me H P last := ⟨at_chg h.1 hc hF, h.2⟩

set_option maxRecDepth 100000 in
set_option maxHeartbeats 1000000 in
theorem r19Ack_no (b : Nat) (n mem me : Int) (H P : List Int) (last id hv pr : Int) (w : World) (hq : rO w b n mem me H P last) (hm : 0 ≤ mem ∧ mem < 128) (hno : (hasT mem.toNat id && decide (0 ≤ hv) && decide (hv ≤ 60)) = false) :
    Calls Try.prog 28 #[.pointer (some ⟨b, 0, none⟩), .int .i64 id, .int .i64 hv, .int .i64 pr] w fun r w' => r = .returned (.bool false) ∧ Below w.heap.size w w' := by
  have e1 := cell_at hq.1 1
  rw [show (qC n mem me H P last)[1]? = some (.int .i64 mem) from rfl] at e1
  replace hq := Lib.hid hq
  cases hid : hasT mem.toNat id
  · replace hid := Lib.hid hid
    go_enter Try.func28, Try.ntmps28
    go_wp2_with fail
    refine (rhas_any mem id _ hm).mono ?_
    rintro r w2 ⟨rfl, hb2⟩
    rw [hid.out]
    go_wp2
    go_ret
    exact ⟨rfl, hb2⟩
  · rw [hid] at hno
    replace hid := Lib.hid hid
    by_cases c1 : hv < 0
    · clear hno
      go_enter Try.func28, Try.ntmps28
      go_wp2_with fail
      refine (rhas_any mem id _ hm).mono ?_
      rintro r w2 ⟨rfl, hb2⟩
      rw [hid.out]
      go_wp2
      go_ret
      exact ⟨rfl, hb2⟩
    · have c2 : 60 < hv := by simp at hno; omega
      clear hno
      go_enter Try.func28, Try.ntmps28
      go_wp2_with fail
      refine (rhas_any mem id _ hm).mono ?_
      rintro r w2 ⟨rfl, hb2⟩
      rw [hid.out]
      go_wp2
      go_ret
      exact ⟨rfl, hb2⟩
set_option maxRecDepth 100000 in
set_option maxHeartbeats 4000000 in
theorem r19Ack_yes (b : Nat) (n mem me : Int) (H P : List Int) (last : Int) (id : Nat) (hv pr : Int) (w0 : World) (hq0 : rO w0 b n mem me H P last) (hm : 0 ≤ mem ∧ mem < 128) (hid : hasT mem.toNat id = true) (hi1 : 1 ≤ id) (hi7 : id ≤ 7) (hv0 : 0 ≤ hv) (hv60 : hv ≤ 60) :
    Calls Try.prog 28 #[.pointer (some ⟨b, 0, none⟩), .int .i64 id, .int .i64 hv, .int .i64 pr] w0 fun r w' => r = .returned (.bool true) ∧
      rO w' b n mem me (H.set id (max (H.getD id 0) hv)) (ackP P id pr last) last ∧ Chg (fun k => k = b) w0 w' := by
  obtain ⟨x, hx⟩ : ∃ x, H.getD id 0 = x := ⟨_, rfl⟩
  obtain ⟨y, hy⟩ : ∃ y, P.getD id 0 = y := ⟨_, rfl⟩
  rw [hx]
  replace hid := Lib.hid hid
  have e1 := cell_at hq0.1 1
  rw [show (qC n mem me H P last)[1]? = some (.int .i64 mem) from rfl] at e1
  have hbl0 := at_lt hq0.1
  replace hq0 := Lib.hid hq0
  replace hx := Lib.hid hx
  replace hy := Lib.hid hy
  have hi8 : id < 8 := by omega
  go_enter Try.func28, Try.ntmps28
  go_wp2_with fail
  refine (rhas_any mem id _ hm).mono ?_
  rintro r w ⟨rfl, hbw⟩
  rw [hid.out]
  have hq := hq0.out.below hbw
  have hc0 : Chg (fun k => k = b) w0 w := .of_below hbw
  clear hbw e1
  have e3 := cell_at hq.1 (3 + id)
  rw [qC_H hq.2.1 hq.2.2 (by omega), hx.out] at e3
  have z3 := free_at hq.1 (3 + id)
  have hbl := at_lt hq.1
  have hset := set_at (o := 3 + id) (u := .int .i64 (max x hv)) hq.1
  rw [qC_setH hq.2.1 hq.2.2 (by omega)] at hset
  have hq3 : rO (w.setCell ⟨b, 3 + id, none⟩ (.int .i64 (max x hv))).drew b n mem me (H.set id (max x hv)) P last := ⟨hset, by rw [List.length_set]; exact hq.2.1, hq.2.2⟩
  have hc3 : Chg (fun k => k = b) w0 (w.setCell ⟨b, 3 + id, none⟩ (.int .i64 (max x hv))).drew := (chg_set (F := fun k => k = b) hc0 rfl).on ((Below.refl _ _).drew)
  replace hq3 := Lib.hid hq3
  replace hc3 := Lib.hid hc3
  replace hq := Lib.hid hq
  clear hset hc0
  go_upto_region 3 with (fail)
  go_region
  clear e3 z3
  generalize (World.setCell w _ _).drew = w3 at hq3 hc3 ⊢
  have e19 := cell_at hq3.out.1 19
  rw [qC_last hq3.out.2.1 hq3.out.2.2] at e19
  have hbl3 := at_lt hq3.out.1
  by_cases hp : pr ≤ last
  · have hpH := Lib.hid hp
    have e11 := cell_at hq3.out.1 (11 + id)
    rw [qC_P hq3.out.2.1 hq3.out.2.2 (by omega), hy.out] at e11
    have z11 := free_at hq3.out.1 (11 + id)
    have hset := set_at (o := 11 + id) (u := .int .i64 (max y pr)) hq3.out.1
    rw [qC_setP hq3.out.2.1 hq3.out.2.2 (by omega)] at hset
    have hq5 : rO (w3.setCell ⟨b, 11 + id, none⟩ (.int .i64 (max y pr))).drew b n mem me (H.set id (max x hv)) (P.set id (max y pr)) last := ⟨hset, hq3.out.2.1, by rw [List.length_set]; exact hq3.out.2.2⟩
    have hc5 : Chg (fun k => k = b) w0 (w3.setCell ⟨b, 11 + id, none⟩ (.int .i64 (max y pr))).drew := (chg_set (F := fun k => k = b) hc3.out rfl).on ((Below.refl _ _).drew)
    replace hq5 := Lib.hid hq5
    replace hc5 := Lib.hid hc5
    clear hset
    go_upto_region 5 with (fail)
    go_region
    go_wp2
    go_ret
    exact ⟨rfl, by rw [ackP, if_pos hpH.out, hy.out]; exact hq5.out, hc5.out⟩
  · have hpH := Lib.hid hp
    go_wp2
    go_ret
    exact ⟨rfl, by rw [ackP, if_neg (by have := hpH.out; omega)]; exact hq3.out, hc3.out⟩

set_option maxRecDepth 100000 in
set_option maxHeartbeats 2000000 in
theorem r19Next_any (b : Nat) (n mem me : Int) (H P : List Int) (last : Int) (m : Nat) (w : World) (hq : rO w b n mem me H P last) (hme : me = m) (hm7 : m ≤ 7) (hl0 : 0 ≤ last) (hl : last < 4611686018427387904) :
    Calls Try.prog 30 #[.pointer (some ⟨b, 0, none⟩)] w fun r w' => r = .returned (.int .i64 (last + 1)) ∧ rO w' b n mem me H (P.set m (last + 1)) (last + 1) ∧ Chg (fun k => k = b) w w' := by
  have e19 := cell_at hq.1 19
  rw [qC_last hq.2.1 hq.2.2] at e19
  have z19 := free_at hq.1 19
  have hbl := at_lt hq.1
  have hset := set_at (o := 19) (u := .int .i64 (last + 1)) hq.1
  rw [qC_setL hq.2.1 hq.2.2] at hset
  have hq3 : rO (w.setCell ⟨b, 19, none⟩ (.int .i64 (last + 1))) b n mem me H P (last + 1) := ⟨hset, hq.2⟩
  have hc3 : Chg (fun k => k = b) w (w.setCell ⟨b, 19, none⟩ (.int .i64 (last + 1))) := chg_set (Chg.refl _ _) rfl
  replace hq3 := Lib.hid hq3
  replace hc3 := Lib.hid hc3
  replace hq := Lib.hid hq
  clear hset
  go_enter Try.func30, Try.ntmps30
  go_upto_region 2 with (fail)
  clear e19 z19
  generalize World.setCell w _ _ = w3 at hq3 hc3 ⊢
  have e19 := cell_at hq3.out.1 19
  rw [qC_last hq3.out.2.1 hq3.out.2.2] at e19
  have e2 := cell_at hq3.out.1 2
  rw [show (qC n mem me H P (last + 1))[2]? = some (.int .i64 me) from rfl, hme] at e2
  have hbl3 := at_lt hq3.out.1
  have hm8 : m < 8 := by omega
  have e11 := cell_at hq3.out.1 (11 + m)
  rw [qC_P hq3.out.2.1 hq3.out.2.2 (by omega)] at e11
  have z11 := free_at hq3.out.1 (11 + m)
  have hset := set_at (o := 11 + m) (u := .int .i64 (last + 1)) hq3.out.1
  rw [qC_setP hq3.out.2.1 hq3.out.2.2 (by omega)] at hset
  have hq5 : rO (w3.setCell ⟨b, 11 + m, none⟩ (.int .i64 (last + 1))).drew b n mem me H (P.set m (last + 1)) (last + 1) := ⟨hset, hq3.out.2.1, by rw [List.length_set]; exact hq3.out.2.2⟩
  have hc5 : Chg (fun k => k = b) w (w3.setCell ⟨b, 11 + m, none⟩ (.int .i64 (last + 1))).drew := (chg_set (F := fun k => k = b) hc3.out rfl).on ((Below.refl _ _).drew)
  replace hq5 := Lib.hid hq5
  replace hc5 := Lib.hid hc5
  replace hme := Lib.hid hme
  clear hset
  generalize P.getD m 0 = y at e11
  go_region
  clear e19 e2 e11 z11
  generalize (World.setCell w3 _ _).drew = w5 at hq5 hc5 ⊢
  have e19 := cell_at hq5.out.1 19
  rw [qC_last hq5.out.2.1 hq5.out.2.2] at e19
  go_wp2
  go_ret
  exact ⟨rfl, hq5.out, hc5.out⟩

/-- how many members have so much, of the first j -/
def cntB (T : Nat) (H : List Int) (x : Int) (j : Nat) : Nat := (List.range j).countP fun k => hasT T ((k + 1 : Nat) : Int) && decide (x ≤ H.getD (k + 1) 0)
theorem cntB_succ (T : Nat) (H : List Int) (x : Int) (j : Nat) : cntB T H x (j + 1) = cntB T H x j + if (hasT T ((j + 1 : Nat) : Int) && decide (x ≤ H.getD (j + 1) 0)) = true then 1 else 0 := by
  unfold cntB
  rw [List.range_succ, List.countP_append]
  simp only [List.countP_cons, List.countP_nil, Nat.zero_add]
theorem cntB_le (T : Nat) (H : List Int) (x : Int) (j : Nat) : cntB T H x j ≤ j := by
  have := List.countP_le_length (p := fun k => hasT T ((k + 1 : Nat) : Int) && decide (x ≤ H.getD (k + 1) 0)) (l := List.range j)
  rw [List.length_range] at this
  exact this
def accB (T n : Nat) (H : List Int) (i : Nat) : Bool := hasT T (i : Int) && decide (n / 2 < cntB T H (H.getD i 0) 7)
/-- the reference's greatest number, of the first j -/
def refB (T n : Nat) (H : List Int) : Nat → Int
  | 0 => 0
  | j + 1 => if accB T n H (j + 1) then max (refB T n H j) (H.getD (j + 1) 0) else refB T n H j
theorem refB_pos (T n : Nat) (H : List Int) (j : Nat) : 0 ≤ refB T n H j := by
  induction j with
  | zero => exact Int.le_refl _
  | succ j ih => rw [refB]; split <;> omega
theorem refB_ge (T n : Nat) (H : List Int) (j : Nat) : ∀ i, i < j → accB T n H (i + 1) = true → H.getD (i + 1) 0 ≤ refB T n H j := by
  induction j with
  | zero => intro i hi; omega
  | succ j ih =>
    intro i hi ha
    rw [refB]
    by_cases h : i = j
    · subst h; rw [if_pos ha]; omega
    · have := ih i (by omega) ha
      split <;> omega
theorem refB_le (T n : Nat) (H : List Int) (c : Int) (hc : 0 ≤ c) (h : ∀ i, accB T n H (i + 1) = true → H.getD (i + 1) 0 ≤ c) (j : Nat) : refB T n H j ≤ c := by
  induction j with
  | zero => exact hc
  | succ j ih =>
    rw [refB]
    split
    · rename_i ha; have := h j ha; omega
    · exact ih
theorem refB_med {T n : Nat} {H : List Int} (hm : mostT T n = true) (hH : H.length = 8) (h0 : ∀ i, 0 ≤ H.getD i 0) (hz : ∀ i : Nat, hasT T (i : Int) = false → H.getD i 0 = 0) : refB T n H 7 = medS H n := by
  obtain ⟨hn3, hn7, _⟩ := mostT_has hm
  obtain ⟨a, b, hc⟩ := most_count hm hH h0 hz
  have hcnt : ∀ x, cntB T H x 7 = ((listT T).map fun y => H.getD y.toNat 0).countP (fun y => decide (x ≤ y)) := by
    intro x
    rw [List.countP_map, listT, count_listTo]
    refine List.countP_congr fun i _ => ?_
    simp [Function.comp]
  have h1 : refB T n H 7 ≤ medS H n := by
    refine refB_le _ _ _ _ hc (fun i ha => ?_) 7
    unfold accB at ha
    rw [hcnt] at ha
    simp only [Bool.and_eq_true, decide_eq_true_eq] at ha
    rcases Int.lt_or_le (medS H n) (H.getD (i + 1) 0) with hlt | hle
    · have : ((listT T).map fun y => H.getD y.toNat 0).countP (fun y => decide (H.getD (i + 1) 0 ≤ y)) ≤ ((listT T).map fun y => H.getD y.toNat 0).countP (fun y => decide (medS H n < y)) := by
        refine List.countP_mono_left fun y _ hy => ?_
        simp only [decide_eq_true_eq] at hy ⊢
        omega
      omega
    · exact hle
  have h2 : medS H n ≤ refB T n H 7 := by
    by_cases h : medS H n = 0
    · rw [h]; exact refB_pos _ _ _ _
    · obtain ⟨i, hi, e⟩ := medS_in hH (n := n) (by omega) (by omega)
      have hhas : hasT T ((i + 1 : Nat) : Int) = true := by
        cases hh : hasT T ((i + 1 : Nat) : Int)
        · exact absurd (hz _ hh) (by rw [← e]; exact h)
        · rfl
      have ha : accB T n H (i + 1) = true := by
        unfold accB
        rw [hcnt, hhas, ← e]
        simp only [Bool.true_and, decide_eq_true_eq]
        omega
      have := refB_ge T n H 7 i (by omega) ha
      omega
  omega

set_option maxRecDepth 100000 in
set_option maxHeartbeats 8000000 in
theorem r19Commit_any (b : Nat) (T n : Nat) (me : Int) (H P : List Int) (last : Int) (w : World) (hq : rO w b n T me H P last) (hT : T < 128) (hn : n ≤ 7) :
    Calls Try.prog 32 #[.pointer (some ⟨b, 0, none⟩)] w fun r w' => r = .returned (.int .i64 (refB T n H 7)) ∧ Below w.heap.size w w' := by
  replace hq := Lib.hid hq
  go_enter Try.func32, Try.ntmps32
  go_wp2
  go_loopw [3, 4] (fun c i wr => ∃ j : Nat, j ≤ 7 ∧ i = .int .i64 ((j : Int) + 1) ∧ c = .int .i64 (refB T n H j) ∧ Below w.heap.size w wr) (fun _ i _ => 8 - (intOf i).toNat)
  case atStart => exact ⟨0, by omega, rfl, rfl, Below.refl _ _⟩
  case round =>
    obtain ⟨j, hj, rfl, rfl, hbel⟩ := hrel
    by_cases hlt : j < 7
    · obtain ⟨wa, rfl⟩ : ∃ x, x = wr := ⟨_, rfl⟩
      have hcl := cntB_le T H (H.getD (j + 1) 0) 7
      go_wp2
      go_loopw [5, 6] (fun s i wr => ∃ k : Nat, k ≤ 7 ∧ i = .int .i64 ((k : Int) + 1) ∧ s = .int .i64 ((cntB T H (H.getD (j + 1) 0) k : Nat) : Int) ∧ Below w.heap.size w wr) (fun _ i _ => 8 - (intOf i).toNat)
      case atStart => exact ⟨0, by omega, rfl, rfl, hbel⟩
      case round =>
        obtain ⟨k, hk, rfl, rfl, hbr⟩ := hrel
        have hqr := hq.out.below hbr
        have hkl := cntB_le T H (H.getD (j + 1) 0) k
        have e1 := cell_at hqr.1 1
        rw [show (qC n T me H P last)[1]? = some (.int .i64 T) from rfl] at e1
        by_cases hkt : k < 7
        · have hst := cntB_succ T H (H.getD (j + 1) 0) k
          have e3 := cell_at hqr.1 (3 + (k + 1))
          rw [qC_H hqr.2.1 hqr.2.2 (by omega)] at e3
          have e4 := cell_at hqr.1 (3 + (j + 1))
          rw [qC_H hqr.2.1 hqr.2.2 (by omega)] at e4
          generalize H.getD (k + 1) 0 = y at e3 hst
          generalize H.getD (j + 1) 0 = x at e4 hst hkl hcl ⊢
          obtain ⟨kk, hkk⟩ : ∃ kk, kk = k + 1 := ⟨_, rfl⟩
          obtain ⟨jj, hjj⟩ : ∃ jj, jj = j + 1 := ⟨_, rfl⟩
          have hkI : (k : Int) + 1 = (kk : Int) := by omega
          have hjI : (j : Int) + 1 = (jj : Int) := by omega
          rw [← hkk] at e3 hst
          rw [← hjj] at e4
          have hk8 : kk < 8 := by omega
          have hj8 : jj < 8 := by omega
          obtain ⟨hh, hhe⟩ : ∃ hh, hasT T (kk : Int) = hh := ⟨_, rfl⟩
          rw [hhe] at hst
          have HR : Hid (∀ x, Calls Try.prog 26 #[.int .i64 (T : Int), .int .i64 (kk : Int)] (upTo wr x) fun r w' => r = .returned (.bool hh) ∧ ∃ z, w' = upTo wr z) := Lib.hid fun x => by
            have := rhas_any (T : Int) (kk : Int) (upTo wr x) ⟨by omega, by omega⟩
            rw [Int.toNat_natCast, hhe] at this
            exact call_up this
          have u1 := upTo_cell e1
          have u3 := upTo_cell e3
          have u4 := upTo_cell e4
          have hbrH := Lib.hid hbr
          replace hkk := Lib.hid hkk
          replace hjj := Lib.hid hjj
          replace hst := Lib.hid hst
          replace hhe := Lib.hid hhe
          replace hqr := Lib.hid hqr
          obtain ⟨cn, hcn⟩ : ∃ cn, cntB T H x k = cn := ⟨_, rfl⟩
          rw [hcn] at hkl ⊢
          replace hcn := Lib.hid hcn
          rw [hkI, hjI]
          clear e1 e3 e4 hbr
          go_upto_region 9 with (fail)
          by_cases hit : hh = true ∧ x ≤ y
          · obtain ⟨hi1, hi2⟩ := hit
            subst hi1
            have d : decide (x ≤ y) = true := by simpa using hi2
            have hst2 : Hid (cntB T H x kk = cn + 1) := Lib.hid (by
              have := hst.out
              rw [hcn.out, d] at this
              simpa using this)
            refine wp_region_up (by kernel_rfl) (by kernel_rfl) ?_
            repeat (go_big_quiet_step ((go_at_call 26; exact HR.out _)))
            refine wpQuiet_nil ?_
            intro w8 hw8
            have hb8 := Lib.hid (hbrH.out.trans ((up_below hw8).mono hbrH.out.size))
            clear hw8 u1 u3 u4
            go_wp2
            go_roundw
            case rel => exact ⟨kk, by omega, by go_num, by rw [hst2.out]; go_num, hb8.out⟩
            case measure => simp [intOf]; omega
          · have hst2 : Hid (cntB T H x kk = cn) := Lib.hid (by
              have := hst.out
              rw [hcn.out] at this
              rw [this, if_neg (by simpa using hit)]; rfl)
            cases hh
            · clear hit
              refine wp_region_up (by kernel_rfl) (by kernel_rfl) ?_
              repeat (go_big_quiet_step ((go_at_call 26; exact HR.out _)))
              refine wpQuiet_nil ?_
              intro w8 hw8
              have hb8 := Lib.hid (hbrH.out.trans ((up_below hw8).mono hbrH.out.size))
              clear hw8 u1 u3 u4
              go_wp2
              go_roundw
              case rel => exact ⟨kk, by omega, by go_num, by rw [hst2.out], hb8.out⟩
              case measure => simp [intOf]; omega
            · have d : decide (x ≤ y) = false := by simp at hit ⊢; omega
              clear hit
              refine wp_region_up (by kernel_rfl) (by kernel_rfl) ?_
              repeat (go_big_quiet_step ((go_at_call 26; exact HR.out _)))
              refine wpQuiet_nil ?_
              intro w8 hw8
              have hb8 := Lib.hid (hbrH.out.trans ((up_below hw8).mono hbrH.out.size))
              clear hw8 u1 u3 u4
              go_wp2
              go_roundw
              case rel => exact ⟨kk, by omega, by go_num, by rw [hst2.out], hb8.out⟩
              case measure => simp [intOf]; omega
        · obtain rfl : k = 7 := by omega
          have hst : refB T n H (j + 1) = if accB T n H (j + 1) then max (refB T n H j) (H.getD (j + 1) 0) else refB T n H j := rfl
          unfold accB at hst
          have e0 := cell_at hqr.1 0
          rw [show (qC n T me H P last)[0]? = some (.int .i64 n) from rfl] at e0
          have e4 := cell_at hqr.1 (3 + (j + 1))
          rw [qC_H hqr.2.1 hqr.2.2 (by omega)] at e4
          obtain ⟨cn, hcnn⟩ : ∃ cn, cntB T H (H.getD (j + 1) 0) 7 = cn := ⟨_, rfl⟩
          rw [hcnn] at hst hkl hcl ⊢
          obtain ⟨x, hx⟩ : ∃ x, H.getD (j + 1) 0 = x := ⟨_, rfl⟩
          rw [hx] at e4 hst
          obtain ⟨jj, hjj⟩ : ∃ jj, jj = j + 1 := ⟨_, rfl⟩
          rw [← hjj] at hx
          replace hx := Lib.hid hx
          replace hcnn := Lib.hid hcnn
          have hjI : (j : Int) + 1 = (jj : Int) := by omega
          rw [← hjj] at e4 hst
          have hj8 : jj < 8 := by omega
          obtain ⟨hh, hhe⟩ : ∃ hh, hasT T (jj : Int) = hh := ⟨_, rfl⟩
          rw [hhe] at hst
          have HR : Hid (∀ x, Calls Try.prog 26 #[.int .i64 (T : Int), .int .i64 (jj : Int)] (upTo wr x) fun r w' => r = .returned (.bool hh) ∧ ∃ z, w' = upTo wr z) := Lib.hid fun x => by
            have := rhas_any (T : Int) (jj : Int) (upTo wr x) ⟨by omega, by omega⟩
            rw [Int.toNat_natCast, hhe] at this
            exact call_up this
          have hq2 : (n : Int).tdiv 2 = ((n / 2 : Nat) : Int) := by rw [Int.tdiv_eq_ediv_of_nonneg (by omega)]; omega
          have hbrH := Lib.hid hbr
          have hqrH := Lib.hid hqr
          have hbl := at_lt hqr.1
          replace hjj := Lib.hid hjj
          replace hst := Lib.hid hst
          replace hhe := Lib.hid hhe
          obtain ⟨rb, hrb⟩ : ∃ rb, refB T n H j = rb := ⟨_, rfl⟩
          rw [hrb]
          replace hrb := Lib.hid hrb
          clear e0 e4 hbr hqr hkt HR
          rw [hjI]
          by_cases hit : hh = true ∧ n / 2 < cn
          · obtain ⟨hi1, hi2⟩ := hit
            subst hi1
            have d : decide (((n / 2 : Nat) : Int) < (cn : Int)) = true := by simp; omega
            have d' : decide (n / 2 < cn) = true := by simpa using hi2
            have hst2 : Hid (refB T n H jj = max rb x) := Lib.hid (by
              have := hst.out
              rw [hrb.out, d'] at this
              simpa using this)
            go_wp2_with fail
            refine (rhas_any (T : Int) (jj : Int) _ ⟨by omega, by omega⟩).mono ?_
            rintro r w8 ⟨rfl, hb8'⟩
            rw [Int.toNat_natCast, hhe.out]
            have e0 := cell_at (hqrH.out.below hb8').1 0
            rw [show (qC n T me H P last)[0]? = some (.int .i64 n) from rfl] at e0
            have e4 := cell_at (hqrH.out.below hb8').1 (3 + jj)
            rw [qC_H hqrH.out.2.1 hqrH.out.2.2 hj8, hx.out] at e4
            have hbl8 := at_lt (hqrH.out.below hb8').1
            have hb8 := Lib.hid (hbrH.out.trans (hb8'.mono hbrH.out.size))
            clear hb8' e1
            go_wp2
            go_roundw
            case rel => exact ⟨jj, by omega, by go_num, by rw [hst2.out], hb8.out⟩
            case measure => simp [intOf]; omega
          · have hst2 : Hid (refB T n H jj = rb) := Lib.hid (by
              have := hst.out
              rw [hrb.out] at this
              rw [this, if_neg (by simpa using hit)])
            cases hh
            · clear hit
              go_wp2_with fail
              refine (rhas_any (T : Int) (jj : Int) _ ⟨by omega, by omega⟩).mono ?_
              rintro r w8 ⟨rfl, hb8'⟩
              rw [Int.toNat_natCast, hhe.out]
              have e0 := cell_at (hqrH.out.below hb8').1 0
              rw [show (qC n T me H P last)[0]? = some (.int .i64 n) from rfl] at e0
              have e4 := cell_at (hqrH.out.below hb8').1 (3 + jj)
              rw [qC_H hqrH.out.2.1 hqrH.out.2.2 hj8, hx.out] at e4
              have hbl8 := at_lt (hqrH.out.below hb8').1
              have hb8 := Lib.hid (hbrH.out.trans (hb8'.mono hbrH.out.size))
              clear hb8' e1
              go_wp2
              go_roundw
              case rel => exact ⟨jj, by omega, by go_num, by rw [hst2.out], hb8.out⟩
              case measure => simp [intOf]; omega
            · have d : decide (((n / 2 : Nat) : Int) < (cn : Int)) = false := by simp at hit ⊢; omega
              have d' : decide (n / 2 < cn) = false := by simp at hit ⊢; omega
              have hle : cn ≤ n / 2 := by simp at hit; omega
              have hle2 : ¬ n / 2 < cn := by omega
              clear hit
              go_wp2_with fail
              refine (rhas_any (T : Int) (jj : Int) _ ⟨by omega, by omega⟩).mono ?_
              rintro r w8 ⟨rfl, hb8'⟩
              rw [Int.toNat_natCast, hhe.out]
              have e0 := cell_at (hqrH.out.below hb8').1 0
              rw [show (qC n T me H P last)[0]? = some (.int .i64 n) from rfl] at e0
              have e4 := cell_at (hqrH.out.below hb8').1 (3 + jj)
              rw [qC_H hqrH.out.2.1 hqrH.out.2.2 hj8, hx.out] at e4
              have hbl8 := at_lt (hqrH.out.below hb8').1
              have hb8 := Lib.hid (hbrH.out.trans (hb8'.mono hbrH.out.size))
              clear hb8' e1
              go_wp2
              go_roundw
              case rel => exact ⟨jj, by omega, by go_num, by rw [hst2.out], hb8.out⟩
              case measure => simp [intOf]; omega
    · obtain rfl : j = 7 := by omega
      go_wp2
      go_ret
      exact ⟨rfl, hbel⟩

set_option maxRecDepth 100000 in
set_option maxHeartbeats 8000000 in
theorem r19Probe_any (b : Nat) (T n : Nat) (me : Int) (H P : List Int) (last : Int) (w : World) (hq : rO w b n T me H P last) (hT : T < 128) (hn : n ≤ 7) :
    Calls Try.prog 34 #[.pointer (some ⟨b, 0, none⟩)] w fun r w' => r = .returned (.int .i64 (refB T n P 7)) ∧ Below w.heap.size w w' := by
  replace hq := Lib.hid hq
  go_enter Try.func34, Try.ntmps34
  go_wp2
  go_loopw [3, 4] (fun c i wr => ∃ j : Nat, j ≤ 7 ∧ i = .int .i64 ((j : Int) + 1) ∧ c = .int .i64 (refB T n P j) ∧ Below w.heap.size w wr) (fun _ i _ => 8 - (intOf i).toNat)
  case atStart => exact ⟨0, by omega, rfl, rfl, Below.refl _ _⟩
  case round =>
    obtain ⟨j, hj, rfl, rfl, hbel⟩ := hrel
    by_cases hlt : j < 7
    · obtain ⟨wa, rfl⟩ : ∃ x, x = wr := ⟨_, rfl⟩
      have hcl := cntB_le T P (P.getD (j + 1) 0) 7
      go_wp2
      go_loopw [5, 6] (fun s i wr => ∃ k : Nat, k ≤ 7 ∧ i = .int .i64 ((k : Int) + 1) ∧ s = .int .i64 ((cntB T P (P.getD (j + 1) 0) k : Nat) : Int) ∧ Below w.heap.size w wr) (fun _ i _ => 8 - (intOf i).toNat)
      case atStart => exact ⟨0, by omega, rfl, rfl, hbel⟩
      case round =>
        obtain ⟨k, hk, rfl, rfl, hbr⟩ := hrel
        have hqr := hq.out.below hbr
        have hkl := cntB_le T P (P.getD (j + 1) 0) k
        have e1 := cell_at hqr.1 1
        rw [show (qC n T me H P last)[1]? = some (.int .i64 T) from rfl] at e1
        by_cases hkt : k < 7
        · have hst := cntB_succ T P (P.getD (j + 1) 0) k
          have e3 := cell_at hqr.1 (11 + (k + 1))
          rw [qC_P hqr.2.1 hqr.2.2 (by omega)] at e3
          have e4 := cell_at hqr.1 (11 + (j + 1))
          rw [qC_P hqr.2.1 hqr.2.2 (by omega)] at e4
          generalize P.getD (k + 1) 0 = y at e3 hst
          generalize P.getD (j + 1) 0 = x at e4 hst hkl hcl ⊢
          obtain ⟨kk, hkk⟩ : ∃ kk, kk = k + 1 := ⟨_, rfl⟩
          obtain ⟨jj, hjj⟩ : ∃ jj, jj = j + 1 := ⟨_, rfl⟩
          have hkI : (k : Int) + 1 = (kk : Int) := by omega
          have hjI : (j : Int) + 1 = (jj : Int) := by omega
          rw [← hkk] at e3 hst
          rw [← hjj] at e4
          have hk8 : kk < 8 := by omega
          have hj8 : jj < 8 := by omega
          obtain ⟨hh, hhe⟩ : ∃ hh, hasT T (kk : Int) = hh := ⟨_, rfl⟩
          rw [hhe] at hst
          have HR : Hid (∀ x, Calls Try.prog 26 #[.int .i64 (T : Int), .int .i64 (kk : Int)] (upTo wr x) fun r w' => r = .returned (.bool hh) ∧ ∃ z, w' = upTo wr z) := Lib.hid fun x => by
            have := rhas_any (T : Int) (kk : Int) (upTo wr x) ⟨by omega, by omega⟩
            rw [Int.toNat_natCast, hhe] at this
            exact call_up this
          have u1 := upTo_cell e1
          have u3 := upTo_cell e3
          have u4 := upTo_cell e4
          have hbrH := Lib.hid hbr
          replace hkk := Lib.hid hkk
          replace hjj := Lib.hid hjj
          replace hst := Lib.hid hst
          replace hhe := Lib.hid hhe
          replace hqr := Lib.hid hqr
          obtain ⟨cn, hcn⟩ : ∃ cn, cntB T P x k = cn := ⟨_, rfl⟩
          rw [hcn] at hkl ⊢
          replace hcn := Lib.hid hcn
          rw [hkI, hjI]
          clear e1 e3 e4 hbr
          go_upto_region 9 with (fail)
          by_cases hit : hh = true ∧ x ≤ y
          · obtain ⟨hi1, hi2⟩ := hit
            subst hi1
            have d : decide (x ≤ y) = true := by simpa using hi2
            have hst2 : Hid (cntB T P x kk = cn + 1) := Lib.hid (by
              have := hst.out
              rw [hcn.out, d] at this
              simpa using this)
            refine wp_region_up (by kernel_rfl) (by kernel_rfl) ?_
            repeat (go_big_quiet_step ((go_at_call 26; exact HR.out _)))
            refine wpQuiet_nil ?_
            intro w8 hw8
            have hb8 := Lib.hid (hbrH.out.trans ((up_below hw8).mono hbrH.out.size))
            clear hw8 u1 u3 u4
            go_wp2
            go_roundw
            case rel => exact ⟨kk, by omega, by go_num, by rw [hst2.out]; go_num, hb8.out⟩
            case measure => simp [intOf]; omega
          · have hst2 : Hid (cntB T P x kk = cn) := Lib.hid (by
              have := hst.out
              rw [hcn.out] at this
              rw [this, if_neg (by simpa using hit)]; rfl)
            cases hh
            · clear hit
              refine wp_region_up (by kernel_rfl) (by kernel_rfl) ?_
              repeat (go_big_quiet_step ((go_at_call 26; exact HR.out _)))
              refine wpQuiet_nil ?_
              intro w8 hw8
              have hb8 := Lib.hid (hbrH.out.trans ((up_below hw8).mono hbrH.out.size))
              clear hw8 u1 u3 u4
              go_wp2
              go_roundw
              case rel => exact ⟨kk, by omega, by go_num, by rw [hst2.out], hb8.out⟩
              case measure => simp [intOf]; omega
            · have d : decide (x ≤ y) = false := by simp at hit ⊢; omega
              clear hit
              refine wp_region_up (by kernel_rfl) (by kernel_rfl) ?_
              repeat (go_big_quiet_step ((go_at_call 26; exact HR.out _)))
              refine wpQuiet_nil ?_
              intro w8 hw8
              have hb8 := Lib.hid (hbrH.out.trans ((up_below hw8).mono hbrH.out.size))
              clear hw8 u1 u3 u4
              go_wp2
              go_roundw
              case rel => exact ⟨kk, by omega, by go_num, by rw [hst2.out], hb8.out⟩
              case measure => simp [intOf]; omega
        · obtain rfl : k = 7 := by omega
          have hst : refB T n P (j + 1) = if accB T n P (j + 1) then max (refB T n P j) (P.getD (j + 1) 0) else refB T n P j := rfl
          unfold accB at hst
          have e0 := cell_at hqr.1 0
          rw [show (qC n T me H P last)[0]? = some (.int .i64 n) from rfl] at e0
          have e4 := cell_at hqr.1 (11 + (j + 1))
          rw [qC_P hqr.2.1 hqr.2.2 (by omega)] at e4
          obtain ⟨cn, hcnn⟩ : ∃ cn, cntB T P (P.getD (j + 1) 0) 7 = cn := ⟨_, rfl⟩
          rw [hcnn] at hst hkl hcl ⊢
          obtain ⟨x, hx⟩ : ∃ x, P.getD (j + 1) 0 = x := ⟨_, rfl⟩
          rw [hx] at e4 hst
          obtain ⟨jj, hjj⟩ : ∃ jj, jj = j + 1 := ⟨_, rfl⟩
          rw [← hjj] at hx
          replace hx := Lib.hid hx
          replace hcnn := Lib.hid hcnn
          have hjI : (j : Int) + 1 = (jj : Int) := by omega
          rw [← hjj] at e4 hst
          have hj8 : jj < 8 := by omega
          obtain ⟨hh, hhe⟩ : ∃ hh, hasT T (jj : Int) = hh := ⟨_, rfl⟩
          rw [hhe] at hst
          have HR : Hid (∀ x, Calls Try.prog 26 #[.int .i64 (T : Int), .int .i64 (jj : Int)] (upTo wr x) fun r w' => r = .returned (.bool hh) ∧ ∃ z, w' = upTo wr z) := Lib.hid fun x => by
            have := rhas_any (T : Int) (jj : Int) (upTo wr x) ⟨by omega, by omega⟩
            rw [Int.toNat_natCast, hhe] at this
            exact call_up this
          have hq2 : (n : Int).tdiv 2 = ((n / 2 : Nat) : Int) := by rw [Int.tdiv_eq_ediv_of_nonneg (by omega)]; omega
          have hbrH := Lib.hid hbr
          have hqrH := Lib.hid hqr
          have hbl := at_lt hqr.1
          replace hjj := Lib.hid hjj
          replace hst := Lib.hid hst
          replace hhe := Lib.hid hhe
          obtain ⟨rb, hrb⟩ : ∃ rb, refB T n P j = rb := ⟨_, rfl⟩
          rw [hrb]
          replace hrb := Lib.hid hrb
          clear e0 e4 hbr hqr hkt HR
          rw [hjI]
          by_cases hit : hh = true ∧ n / 2 < cn
          · obtain ⟨hi1, hi2⟩ := hit
            subst hi1
            have d : decide (((n / 2 : Nat) : Int) < (cn : Int)) = true := by simp; omega
            have d' : decide (n / 2 < cn) = true := by simpa using hi2
            have hst2 : Hid (refB T n P jj = max rb x) := Lib.hid (by
              have := hst.out
              rw [hrb.out, d'] at this
              simpa using this)
            go_wp2_with fail
            refine (rhas_any (T : Int) (jj : Int) _ ⟨by omega, by omega⟩).mono ?_
            rintro r w8 ⟨rfl, hb8'⟩
            rw [Int.toNat_natCast, hhe.out]
            have e0 := cell_at (hqrH.out.below hb8').1 0
            rw [show (qC n T me H P last)[0]? = some (.int .i64 n) from rfl] at e0
            have e4 := cell_at (hqrH.out.below hb8').1 (11 + jj)
            rw [qC_P hqrH.out.2.1 hqrH.out.2.2 hj8, hx.out] at e4
            have hbl8 := at_lt (hqrH.out.below hb8').1
            have hb8 := Lib.hid (hbrH.out.trans (hb8'.mono hbrH.out.size))
            clear hb8' e1
            go_wp2
            go_roundw
            case rel => exact ⟨jj, by omega, by go_num, by rw [hst2.out], hb8.out⟩
            case measure => simp [intOf]; omega
          · have hst2 : Hid (refB T n P jj = rb) := Lib.hid (by
              have := hst.out
              rw [hrb.out] at this
              rw [this, if_neg (by simpa using hit)])
            cases hh
            · clear hit
              go_wp2_with fail
              refine (rhas_any (T : Int) (jj : Int) _ ⟨by omega, by omega⟩).mono ?_
              rintro r w8 ⟨rfl, hb8'⟩
              rw [Int.toNat_natCast, hhe.out]
              have e0 := cell_at (hqrH.out.below hb8').1 0
              rw [show (qC n T me H P last)[0]? = some (.int .i64 n) from rfl] at e0
              have e4 := cell_at (hqrH.out.below hb8').1 (11 + jj)
              rw [qC_P hqrH.out.2.1 hqrH.out.2.2 hj8, hx.out] at e4
              have hbl8 := at_lt (hqrH.out.below hb8').1
              have hb8 := Lib.hid (hbrH.out.trans (hb8'.mono hbrH.out.size))
              clear hb8' e1
              go_wp2
              go_roundw
              case rel => exact ⟨jj, by omega, by go_num, by rw [hst2.out], hb8.out⟩
              case measure => simp [intOf]; omega
            · have d : decide (((n / 2 : Nat) : Int) < (cn : Int)) = false := by simp at hit ⊢; omega
              have d' : decide (n / 2 < cn) = false := by simp at hit ⊢; omega
              have hle : cn ≤ n / 2 := by simp at hit; omega
              have hle2 : ¬ n / 2 < cn := by omega
              clear hit
              go_wp2_with fail
              refine (rhas_any (T : Int) (jj : Int) _ ⟨by omega, by omega⟩).mono ?_
              rintro r w8 ⟨rfl, hb8'⟩
              rw [Int.toNat_natCast, hhe.out]
              have e0 := cell_at (hqrH.out.below hb8').1 0
              rw [show (qC n T me H P last)[0]? = some (.int .i64 n) from rfl] at e0
              have e4 := cell_at (hqrH.out.below hb8').1 (11 + jj)
              rw [qC_P hqrH.out.2.1 hqrH.out.2.2 hj8, hx.out] at e4
              have hbl8 := at_lt (hqrH.out.below hb8').1
              have hb8 := Lib.hid (hbrH.out.trans (hb8'.mono hbrH.out.size))
              clear hb8' e1
              go_wp2
              go_roundw
              case rel => exact ⟨jj, by omega, by go_num, by rw [hst2.out], hb8.out⟩
              case measure => simp [intOf]; omega
    · obtain rfl : j = 7 := by omega
      go_wp2
      go_ret
      exact ⟨rfl, hbel⟩

end Go.Proofs.Ytimffflhfaiakaa
