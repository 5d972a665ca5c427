/- What stands fast in one team is had by someone of any other team that is most: for all numbers; no condition. -/
import Derived.Test.YtimffflhfaiakaaQnQ
import Derived.Test.YtimffflhfaiakaaTeamC
import Derived.Deep.OwnRows
namespace Go.Proofs.Ytimffflhfaiakaa.lawQuorumMeet
open Go.ChangeShapes Go.WideShapes Go.ChangeAt Go.RowKit
set_option linter.unusedVariables false

theorem count_two {l : List Nat} (p q : Nat → Bool) (h : l.length < l.countP p + l.countP q) : ∃ x ∈ l, p x = true ∧ q x = true := by
  induction l with
  | nil => simp at h
  | cons x l ih =>
    simp only [List.countP_cons, List.length_cons] at h
    by_cases hp : p x = true
    · by_cases hq : q x = true
      · exact ⟨x, List.mem_cons_self, hp, hq⟩
      · rw [if_pos hp, if_neg hq] at h
        obtain ⟨y, hy, h1⟩ := ih (by omega)
        exact ⟨y, List.mem_cons_of_mem _ hy, h1⟩
    · rw [if_neg hp] at h
      obtain ⟨y, hy, h1⟩ := ih (by split at h <;> omega)
      exact ⟨y, List.mem_cons_of_mem _ hy, h1⟩
theorem meet {A B n : Nat} {H : List Int} (hA : mostT A n = true) (hB : mostT B n = true) (hH : H.length = 8) (h0 : ∀ i, 0 ≤ H.getD i 0) (hz : ∀ i : Nat, hasT A (i : Int) = false → H.getD i 0 = 0) :
    ∃ x ∈ listT B, hasT A x = true ∧ medS H n ≤ H.getD x.toNat 0 := by
  obtain ⟨hn3, hn7, hT, hmo, hTn⟩ := mostT_has hA
  obtain ⟨_, _, hTB, hmoB, hTnB⟩ := mostT_has hB
  have hTn' : A < 2 ^ n := by rw [Int.toNat_natCast] at hTn; exact_mod_cast hTn
  have hTnB' : B < 2 ^ n := by rw [Int.toNat_natCast] at hTnB; exact_mod_cast hTnB
  obtain ⟨a, _, _⟩ := most_count hA hH h0 hz
  rw [List.countP_map, count_listT hTn' (by omega)] at a
  have b : n < 2 * (List.range n).countP (fun i => hasT B ((i + 1 : Nat) : Int)) := by
    have := count_listT hTnB' (by omega) (fun _ => true)
    simp only [Bool.and_true] at this
    rw [← this, List.countP_eq_length.2 (fun _ _ => rfl), listT_len B hTB]
    omega
  obtain ⟨i, hi, h1, h2⟩ := count_two _ _ (show (List.range n).length < _ + _ by rw [List.length_range]; exact (show n < (List.range n).countP (fun i => hasT A ((i + 1 : Nat) : Int) && ((fun x => decide (medS H n ≤ x)) ∘ fun x => H.getD x.toNat 0) ((i + 1 : Nat) : Int)) + (List.range n).countP (fun i => hasT B ((i + 1 : Nat) : Int)) by omega))
  simp only [Function.comp, Bool.and_eq_true, decide_eq_true_eq] at h1
  exact ⟨((i + 1 : Nat) : Int), by have := mem_listT B ((i + 1 : Nat) : Int); rw [h2] at this; simpa using this.symm, h1.1, h1.2⟩

set_option maxRecDepth 100000 in
set_option maxHeartbeats 8000000 in
theorem walk (n mem memb : Int) (v : Value) (l : List Int) (w : World) (hn : I64 n) (hmm : I64 mem) (hmb : I64 memb) (hr : rdI w v l) (hI : ∀ x ∈ l, I64 x) :
    Calls Try.prog 14 #[.int .i64 n, .int .i64 mem, .int .i64 memb, v] w fun e w' => e = .returned (.bool true) ∧ Below w.heap.size w w' := by
  obtain ⟨a, cap, rfl, hmx, hM, ha⟩ := hr
  unfold maxLen at hM
  replace ha := Lib.hid ha
  replace hI := Lib.hid hI
  clear hn hmm hmb
  go_enter Try.func14, Try.ntmps14
  go_wp2_with fail
  refine (b21_any _).mono ?_
  rintro r w1 ⟨rfl, hb1⟩
  replace hb1 := Lib.hid hb1
  cases hm : mostT mem n
  · replace hm := Lib.hid hm
    go_wp2_with fail
    refine (rmost_any mem n _).mono ?_
    rintro r w2 ⟨rfl, hb2⟩
    rw [hm.out]
    have hB2 := hb1.out.trans (hb2.mono hb1.out.size)
    go_wp2
    go_ret
    exact ⟨rfl, hB2⟩
  cases hmB : mostT memb n
  · replace hm := Lib.hid hm
    replace hmB := Lib.hid hmB
    go_wp2_with fail
    refine (rmost_any mem n _).mono ?_
    rintro r w2 ⟨rfl, hb2⟩
    rw [hm.out]
    have hB2 := Lib.hid (hb1.out.trans (hb2.mono hb1.out.size))
    clear hb2
    go_wp2_with fail
    refine (rmost_any memb n _).mono ?_
    rintro r w3 ⟨rfl, hb3⟩
    rw [hmB.out]
    have hB3 := hB2.out.trans (hb3.mono hB2.out.size)
    go_wp2
    go_ret
    exact ⟨rfl, hB3⟩
  obtain ⟨T, rfl⟩ : ∃ T : Nat, mem = T := by
    have h := hm
    simp only [mostT, Bool.and_eq_true] at h
    have := mayT_lt h.1
    exact ⟨mem.toNat, by omega⟩
  obtain ⟨U, rfl⟩ : ∃ T : Nat, memb = T := by
    have h := hmB
    simp only [mostT, Bool.and_eq_true] at h
    have := mayT_lt h.1
    exact ⟨memb.toNat, by omega⟩
  obtain ⟨n, rfl⟩ : ∃ N : Nat, n = N := by
    have := mostT_has hm
    exact ⟨n.toNat, by omega⟩
  have hU := (mostT_has hmB).2.2.1
  have hmH := Lib.hid hm
  replace hmB := Lib.hid hmB
  go_wp2_with fail
  refine (rmost_any T n _).mono ?_
  rintro r w2 ⟨rfl, hb2⟩
  rw [hmH.out]
  have hB2 := Lib.hid (hb1.out.trans (hb2.mono hb1.out.size))
  clear hb2 hb1 hmH
  go_wp2_with fail
  refine (rmost_any U n _).mono ?_
  rintro r w2b ⟨rfl, hb2⟩
  rw [hmB.out]
  have hB2 := Lib.hid (hB2.out.trans (hb2.mono hB2.out.size))
  clear hb2
  obtain ⟨hn3, hn7, hT, hmost, _⟩ := mostT_has hm
  have hl0 := list_first hm
  have hLi : ∀ y ∈ listT T, hasT T y = true ∧ 1 ≤ y ∧ y ≤ 7 := fun y hy => list_has hy
  have hLn := listT_len T hT
  have hLd := listT_nodup hT
  replace hm := Lib.hid hm
  go_wp2_with fail
  refine (rlist_nat T _ hT).mono ?_
  rintro r w3 ⟨vL, rfl, hoL, hb3⟩
  have hB3 := Lib.hid (hB2.out.trans (hb3.mono hB2.out.size))
  obtain ⟨L, hL⟩ : ∃ L, listT T = L := ⟨_, rfl⟩
  rw [hL] at hoL hl0 hLi hLn hLd
  have hlen7 : L.length ≤ 7 := by rw [hLn]; exact lenT_le T
  obtain ⟨aL, cL, rfl, hm1, hM1, hx1⟩ := hoL.rd
  obtain ⟨gL, oL, rfl, hxL⟩ := hx1 hl0
  have e0 := hxL 0 hl0
  obtain ⟨hme, hme1, hme7⟩ := hLi _ (List.getElem_mem hl0)
  generalize L[0] = me at e0 hme hme1 hme7
  obtain ⟨m, rfl⟩ : ∃ m : Nat, me = m := ⟨me.toNat, by omega⟩
  rw [Nat.add_zero] at e0
  have hgL : gL < w3.heap.size := cell_lt e0
  clear hx1
  replace hxL := Lib.hid hxL
  unfold maxLen at hM1
  replace hoL := Lib.hid hoL
  replace hLi := Lib.hid hLi
  replace hLn := Lib.hid hLn
  replace hLd := Lib.hid hLd
  replace hL := Lib.hid hL
  have hme' : hasT (T : Int).toNat (m : Int) = true := by rw [Int.toNat_natCast]; exact hme
  replace hme' := Lib.hid hme'
  clear hme
  go_wp2_with fail
  refine (qNew_ok n T m _ hm.out hme'.out).mono ?_
  rintro r w4 ⟨rfl, hq4, hb4⟩
  have hB4 := Lib.hid (hB3.out.trans (hb4.mono hB3.out.size))
  obtain ⟨b, hb⟩ : ∃ b, b = w3.heap.size := ⟨_, rfl⟩
  rw [← hb] at hq4 ⊢
  have hwb : w.heap.size ≤ b := by have := hB3.out.size; omega
  have hRL4 := Lib.hid (hoL.out.rd.grow hb4)
  have hgLb : gL < b := by omega
  have hb4s : b < w4.heap.size := at_lt hq4.1
  replace hb := Lib.hid hb
  replace hq4 := Lib.hid hq4
  clear hb4 hb3 e0 hB2 hB3 hxL hoL
  go_upto_region 9 with (fail)
  obtain ⟨w5, hw5⟩ : ∃ W, W = w4.alloc (.cells (intsV z8).toArray 51) := ⟨_, rfl⟩
  rw [show (Obj.cells #[.int .i64 0, .int .i64 0, .int .i64 0, .int .i64 0, .int .i64 0, .int .i64 0, .int .i64 0, .int .i64 0] 51) = .cells (intsV z8).toArray 51 from rfl, ← hw5]
  have hb5 : Below w4.heap.size w4 w5 := hw5 ▸ (Below.refl _ _).alloc (Nat.le_refl _) _
  have hg5 : gO w5 w4.heap.size z8 51 := by rw [hw5]; exact at_new _ _
  obtain ⟨nb, hnb⟩ : ∃ nb, nb = w4.heap.size := ⟨_, rfl⟩
  rw [← hnb] at hg5 ⊢
  have hB5 := Lib.hid (hB4.out.trans (hb5.mono hB4.out.size))
  have hRL5 := Lib.hid (hRL4.out.grow hb5)
  have hbn : b < nb := by omega
  have hQ5 : QMt T n m L 51 w5 w5 b nb z8 z8 0 := ⟨hq4.out.below hb5, hg5, fun i => by rw [z8_get]; exact Int.le_refl _, fun i _ => z8_get i, fun j hj _ => z8_get _, Chg.refl _ _⟩
  have hnw : w.heap.size ≤ nb := by omega
  have hnlt : nb < w5.heap.size := at_lt hg5
  replace hQ5 := Lib.hid hQ5
  replace hnb := Lib.hid hnb
  clear hw5 hb5 hg5 hB4 hRL4 hq4
  go_wp2
  go_loopw [13] (fun i wr => ∃ (k : Nat) (H P : List Int), k ≤ L.length ∧ k ≤ l.length ∧ i = .int .i64 k ∧ QMt T n m L 51 w5 wr b nb H P k) (fun i _ => L.length - (intOf i).toNat)
  case atStart => exact ⟨0, _, _, Nat.zero_le _, Nat.zero_le _, rfl, hQ5.out⟩
  case round =>
    obtain ⟨k, H, P, hk, hkl, rfl, hQ⟩ := hrel
    clear hQ5
    have hGl : H.length = 8 := hQ.q.2.1
    have hbel := Lib.hid (hB5.out.trans (hQ.chg.below hB5.out.size fun j hj => by rcases hj with rfl | rfl <;> omega))
    have hRr := hRL5.out.chg hQ.chg (fun j hj => by
      have : gL = j := by injection hj
      subst this
      rintro (h | h) <;> omega)
    by_cases hlt : k < L.length
    · by_cases hlt2 : k < l.length
      · obtain ⟨gx, ox, rfl, hc⟩ := ha.out (by omega)
        have hck := hbel.out.cell (p := ⟨gx, ox + k, none⟩) (cell_lt (hc k hlt2))
        rw [hc k hlt2] at hck
        obtain ⟨hI1, hI2⟩ := hI.out _ (List.getElem_mem hlt2)
        clear hc
        generalize l[k] = x at hck hI1 hI2
        have tb1 := Int.tmod_lt_of_pos x (show (0 : Int) < 61 by omega)
        have tb2 := Int.lt_tmod_of_pos x (show (0 : Int) < 61 by omega)
        have hfx := tmod_fix x 61 (by omega)
        obtain ⟨Y, hY⟩ : ∃ Y, x % 61 = Y := ⟨_, rfl⟩
        rw [hY] at hfx
        have hY0 : 0 ≤ Y ∧ Y ≤ 60 := by omega
        replace hY := Lib.hid hY
        obtain ⟨_, _, heq, _, _, hLx⟩ := hRr
        injection heq with q1 q2 q3
        obtain ⟨gg, oo, e1, hLx⟩ := hLx (by omega)
        rw [e1] at q1
        injection q1 with q1; injection q1 with q1 q4; subst q1 q4
        have hLk := hLx k hlt
        obtain ⟨hhas, hi1, hi7⟩ := hLi.out _ (List.getElem_mem hlt)
        obtain ⟨id, hid⟩ : ∃ id : Nat, L[k] = (id : Int) := ⟨L[k].toNat, by omega⟩
        obtain ⟨s1, s2, s3, s4, s5⟩ := set_facts (Y := Y) hLd.out hLi.out hQ.q.2.1 hlt hid hY0.1 hQ.h0 hQ.hz hQ.left
        rw [hid] at hLk hhas hi1 hi7
        have hid8 : id < 8 := by omega
        have hidH : id < H.length := by omega
        have hgc := hQ.g.cell (j := id) (by omega)
        have hgz := free_at hQ.g id
        have hgl := at_lt hQ.g
        have hg6 := hQ.g.set id Y
        have hcs : Chg (fun j => j = b ∨ j = nb) wr (wr.setCell ⟨nb, id, none⟩ (.int .i64 Y)) := chg_set (Chg.refl _ _) (.inr rfl)
        have hq6 := hQ.q.chg (chg_set (F := fun j => j = nb) (Chg.refl _ _) rfl : Chg _ wr (wr.setCell ⟨nb, id, none⟩ (.int .i64 Y))) (fun e => by omega)
        have hc6 := hQ.chg.more hcs (fun i hi => .inl hi)
        have hL6 : (wr.setCell ⟨nb, id, none⟩ (.int .i64 Y)).cell? ⟨gL, oL + k, none⟩ = some (.int .i64 id) := by
          rw [← hLk]
          exact World.cell?_of_block (w := wr) (a := ⟨gL, oL + k, none⟩) ((chg_set (F := fun j => j = nb) (Chg.refl _ wr) rfl).block gL (cell_lt hLk) (fun e => by omega))
        replace hq6 := Lib.hid hq6
        replace hg6 := Lib.hid hg6
        replace hc6 := Lib.hid hc6
        replace hL6 := Lib.hid hL6
        replace hid := Lib.hid hid
        replace s1 := Lib.hid s1
        replace s2 := Lib.hid s2
        replace s3 := Lib.hid s3
        replace s4 := Lib.hid s4
        replace s5 := Lib.hid s5
        replace hQ := Lib.hid hQ
        have hhas' : Hid (hasT (T : Int).toNat (id : Int) = true) := Lib.hid (by rw [Int.toNat_natCast]; exact hhas)
        clear hcs hLx hhas
        clear s1
        go_upto_region 12 with (fail)
        go_region
        go_upto_region 13 with (fail)
        clear hfx tb1 tb2 hck hgc hgz hLk
        replace hg6 : Hid (gO (wr.setCell ⟨nb, id, none⟩ (.int .i64 Y)).drew nb (H.set id Y) 51) := hg6
        replace hq6 : Hid (qO (wr.setCell ⟨nb, id, none⟩ (.int .i64 Y)).drew b n T m H P 0) := hq6
        replace hc6 := Lib.hid (hc6.out.on ((Below.refl _ _).drew))
        replace hL6 : Hid ((wr.setCell ⟨nb, id, none⟩ (.int .i64 Y)).drew.cell? ⟨gL, oL + k, none⟩ = some (.int .i64 id)) := hL6
        generalize (World.setCell wr _ _).drew = w6 at hg6 hq6 hc6 hL6 ⊢
        have u1 := upF_cell (F := fun j => j = b) (show ¬ gL = b by omega) hL6.out
        have u2 := upF_cell (F := fun j => j = b) (show ¬ nb = b by omega) (hg6.out.cell (j := id) (by rw [List.length_set]; exact hidH))
        rw [List.getElem_set_self] at u2
        refine wp_region_pc (fun j => j = b) w6 (.q 0 (.q 1 (.q 2 (.q 3 (.q 4 (.q 5 (.q 6 (.q 7 (.q 8 (.q 9 (.q 10 (.l 11 .fin)))))))))))) (by kernel_rfl) (by kernel_rfl) (Chg.refl _ _) ?_
        intro y0 hheap hy0 hyF
        clear hheap
        iterate 11 (refine pc_q rfl ?_; go_big_quiet_step (fail); refine wpQuiet_nil ?_)
        clear u1 u2
        refine pc_l rfl (by kernel_rfl) ?_
        intro K hK
        go_simp
        refine (qAck_yes b n T m H P 0 id Y 0 _ (hq6.out.below hy0) (by omega) hhas'.out (by omega) (by omega) hY0.1 hY0.2).mono ?_
        rintro r w7 ⟨rfl, hq7, hc7⟩
        rw [s5.out] at hq7
        have hc67 := hyF.more hc7 (fun i hi => .inl hi)
        have hQ7 : QMt T n m L 51 w5 w7 b nb (H.set id Y) (ackP P id 0 0) (k + 1) :=
          ⟨hq7, hg6.out.chg hc67 (fun e => by have : nb = b := e; omega), s2.out, s3.out, s4.out, hc6.out.more hc67 (fun i hi => .inl (.inl hi))⟩
        replace hQ7 := Lib.hid hQ7
        refine hK _ _ hc67 ?_
        clear hK K hc7 hq7 hc67
        refine pc_fin ?_
        go_wp2
        go_roundw
        case rel => exact ⟨k + 1, by omega, by omega, by go_num, H.set id Y, ackP P id 0 0, hQ7.out⟩
        case measure => simp [intOf]; omega
      · have hmt := meet hm.out hmB.out hQ.q.2.1 hQ.h0 hQ.hz
        have hqh := Lib.hid hQ.q
        have hgh := Lib.hid hQ.g
        have hH8 := hQ.q.2.1
        clear hQ hRr
        go_wp2_with fail
        refine (rlist_nat U _ hU).mono ?_
        rintro r w6 ⟨vM, rfl, hoM, hb6⟩
        have hB6 := Lib.hid (hbel.out.trans (hb6.mono hbel.out.size))
        have hg6 : gO w6 nb H 51 := at_below hgh.out hb6
        have hq6 := hqh.out.below hb6
        have hMi : ∀ y ∈ listT U, 1 ≤ y ∧ y ≤ 7 := fun y hy => (list_has hy).2
        have hMl : (listT U).length ≤ 7 := by rw [listT_len U hU]; exact lenT_le U
        have hRM := hoM.rd
        generalize listT U = Ms at hRM hMi hMl hmt
        obtain ⟨aM, cM, rfl, hm2, hM2, hxM⟩ := hRM
        unfold maxLen at hM2
        replace hqh := Lib.hid hq6
        replace hgh := Lib.hid hg6
        replace hMi := Lib.hid hMi
        replace hxM := Lib.hid hxM
        replace hmt := Lib.hid hmt
        clear hb6 hoM hq6 hg6
        obtain ⟨c, hc⟩ : ∃ c, medS H n = c := ⟨_, rfl⟩
        rw [hc] at hmt
        replace hc := Lib.hid hc
        have hnl := at_lt hgh.out
        go_wp2
        go_loopw [15] (fun i wr => ∃ k : Nat, k ≤ Ms.length ∧ i = .int .i64 k ∧ (∀ j (h : j < Ms.length), j < k → ¬ (hasT T Ms[j] = true ∧ c ≤ H.getD Ms[j].toNat 0)) ∧ Below w6.heap.size w6 wr) (fun i _ => Ms.length - (intOf i).toNat)
        case atStart => exact ⟨0, Nat.zero_le _, rfl, fun j _ hj => by omega, Below.refl _ _⟩
        case round =>
          obtain ⟨k2, hk2, rfl, hno, hbq⟩ := hrel
          by_cases hl2 : k2 < Ms.length
          · obtain ⟨gM, oM, rfl, hxM2⟩ := hxM.out (by omega)
            have hyc := hbq.cell (p := ⟨gM, oM + k2, none⟩) (cell_lt (hxM2 k2 hl2))
            rw [hxM2 k2 hl2] at hyc
            obtain ⟨hy1, hy7⟩ := hMi.out _ (List.getElem_mem hl2)
            have hne := hno
            obtain ⟨y, hy⟩ : ∃ y : Nat, Ms[k2] = (y : Int) := ⟨Ms[k2].toNat, by omega⟩
            rw [hy] at hyc hy1 hy7
            have hqr := Lib.hid (hqh.out.below hbq)
            have hgr : gO wr nb H 51 := at_below hgh.out hbq
            have hy8 : y < 8 := by omega
            have hgc := hgr.cell (j := y) (by omega)
            have u1 := upTo_cell hyc
            have u2 := upTo_cell hgc
            obtain ⟨z, hz⟩ : ∃ z, H[y]'(by omega) = z := ⟨_, rfl⟩
            rw [hz] at u2
            have hzD : H.getD y 0 = z := by rw [← hz]; simp [List.getD, show y < H.length by omega]
            obtain ⟨hh, hhe⟩ : ∃ hh, hasT T (y : Int) = hh := ⟨_, rfl⟩
            have HR : Hid (∀ x, Calls Try.prog 26 #[.int .i64 (T : Int), .int .i64 (y : Int)] (upTo wr x) fun r w' => r = .returned (.bool hh) ∧ ∃ z, w' = upTo wr z) := Lib.hid fun x => by
              have := rhas_any (T : Int) (y : Int) (upTo wr x) ⟨by omega, by omega⟩
              rw [Int.toNat_natCast, hhe] at this
              exact call_up this
            have HC : Hid (∀ x, Calls Try.prog 31 #[.pointer (some ⟨b, 0, none⟩)] (upTo wr x) fun r w' => r = .returned (.int .i64 c) ∧ ∃ z, w' = upTo wr z) := Lib.hid fun x => by
              have := qCommit_any b n T m H P 0 (upTo wr x) (hqr.out.below (upTo_below wr x)) (by omega) (by omega)
              rw [Int.toNat_natCast, hc.out] at this
              exact call_up this
            have hbq' := Lib.hid hbq
            replace hno := Lib.hid hno
            replace hne := Lib.hid hne
            replace hhe := Lib.hid hhe
            replace hz := Lib.hid hz
            replace hzD := Lib.hid hzD
            replace hy := Lib.hid hy
            replace hgr := Lib.hid hgr
            clear hbq hxM2
            go_upto_region 18 with (fail)
            by_cases hit : hh = true ∧ c ≤ z
            · obtain ⟨hi1, hi2⟩ := hit
              subst hi1
              have d : decide (c ≤ z) = true := by simpa using hi2
              refine wp_region_up (by kernel_rfl) (by kernel_rfl) ?_
              repeat (go_big_quiet_step ((first | (go_at_call 26; exact HR.out _) | (go_at_call 31; exact HC.out _))))
              refine wpQuiet_nil ?_
              intro w8 hw8
              have hb8 := up_below hw8
              clear hw8
              have hB8 := hB6.out.trans ((hbq'.out.trans (hb8.mono hbq'.out.size)).mono hB6.out.size)
              go_wp2
              go_ret
              exact ⟨rfl, hB8⟩
            · have hres : ∀ j (h : j < Ms.length), j < k2 + 1 → ¬ (hasT T Ms[j] = true ∧ c ≤ H.getD Ms[j].toNat 0) := by
                intro j hj hjk
                by_cases hjk2 : j < k2
                · exact hne.out j hj hjk2
                · have : j = k2 := by omega
                  subst this
                  rw [hy.out, hhe.out, Int.toNat_natCast, hzD.out]
                  exact hit
              replace hres := Lib.hid hres
              cases hh
              · clear hit
                refine wp_region_up (by kernel_rfl) (by kernel_rfl) ?_
                repeat (go_big_quiet_step ((first | (go_at_call 26; exact HR.out _) | (go_at_call 31; exact HC.out _))))
                refine wpQuiet_nil ?_
                intro w8 hw8
                have hb8 := up_below hw8
                clear hw8
                have hb68 := Lib.hid (hbq'.out.trans (hb8.mono hbq'.out.size))
                clear hb8
                go_wp2
                go_roundw
                case rel => exact ⟨k2 + 1, by omega, by go_num, hres.out, hb68.out⟩
                case measure => simp [intOf]; omega
              · have d : decide (c ≤ z) = false := by simp at hit ⊢; omega
                clear hit
                refine wp_region_up (by kernel_rfl) (by kernel_rfl) ?_
                repeat (go_big_quiet_step ((first | (go_at_call 26; exact HR.out _) | (go_at_call 31; exact HC.out _))))
                refine wpQuiet_nil ?_
                intro w8 hw8
                have hb8 := up_below hw8
                clear hw8
                have hb68 := Lib.hid (hbq'.out.trans (hb8.mono hbq'.out.size))
                clear hb8
                go_wp2
                go_roundw
                case rel => exact ⟨k2 + 1, by omega, by go_num, hres.out, hb68.out⟩
                case measure => simp [intOf]; omega
          · exfalso
            obtain ⟨x, hx, h1, h2⟩ := hmt.out
            obtain ⟨j, hj, rfl⟩ := List.getElem_of_mem hx
            exact hno j hj (by omega) ⟨h1, h2⟩
    · have hmt := meet hm.out hmB.out hQ.q.2.1 hQ.h0 hQ.hz
      have hqh := Lib.hid hQ.q
      have hgh := Lib.hid hQ.g
      have hH8 := hQ.q.2.1
      clear hQ hRr
      go_wp2_with fail
      refine (rlist_nat U _ hU).mono ?_
      rintro r w6 ⟨vM, rfl, hoM, hb6⟩
      have hB6 := Lib.hid (hbel.out.trans (hb6.mono hbel.out.size))
      have hg6 : gO w6 nb H 51 := at_below hgh.out hb6
      have hq6 := hqh.out.below hb6
      have hMi : ∀ y ∈ listT U, 1 ≤ y ∧ y ≤ 7 := fun y hy => (list_has hy).2
      have hMl : (listT U).length ≤ 7 := by rw [listT_len U hU]; exact lenT_le U
      have hRM := hoM.rd
      generalize listT U = Ms at hRM hMi hMl hmt
      obtain ⟨aM, cM, rfl, hm2, hM2, hxM⟩ := hRM
      unfold maxLen at hM2
      replace hqh := Lib.hid hq6
      replace hgh := Lib.hid hg6
      replace hMi := Lib.hid hMi
      replace hxM := Lib.hid hxM
      replace hmt := Lib.hid hmt
      clear hb6 hoM hq6 hg6
      obtain ⟨c, hc⟩ : ∃ c, medS H n = c := ⟨_, rfl⟩
      rw [hc] at hmt
      replace hc := Lib.hid hc
      have hnl := at_lt hgh.out
      go_wp2
      go_loopw [15] (fun i wr => ∃ k : Nat, k ≤ Ms.length ∧ i = .int .i64 k ∧ (∀ j (h : j < Ms.length), j < k → ¬ (hasT T Ms[j] = true ∧ c ≤ H.getD Ms[j].toNat 0)) ∧ Below w6.heap.size w6 wr) (fun i _ => Ms.length - (intOf i).toNat)
      case atStart => exact ⟨0, Nat.zero_le _, rfl, fun j _ hj => by omega, Below.refl _ _⟩
      case round =>
        obtain ⟨k2, hk2, rfl, hno, hbq⟩ := hrel
        by_cases hl2 : k2 < Ms.length
        · obtain ⟨gM, oM, rfl, hxM2⟩ := hxM.out (by omega)
          have hyc := hbq.cell (p := ⟨gM, oM + k2, none⟩) (cell_lt (hxM2 k2 hl2))
          rw [hxM2 k2 hl2] at hyc
          obtain ⟨hy1, hy7⟩ := hMi.out _ (List.getElem_mem hl2)
          have hne := hno
          obtain ⟨y, hy⟩ : ∃ y : Nat, Ms[k2] = (y : Int) := ⟨Ms[k2].toNat, by omega⟩
          rw [hy] at hyc hy1 hy7
          have hqr := Lib.hid (hqh.out.below hbq)
          have hgr : gO wr nb H 51 := at_below hgh.out hbq
          have hy8 : y < 8 := by omega
          have hgc := hgr.cell (j := y) (by omega)
          have u1 := upTo_cell hyc
          have u2 := upTo_cell hgc
          obtain ⟨z, hz⟩ : ∃ z, H[y]'(by omega) = z := ⟨_, rfl⟩
          rw [hz] at u2
          have hzD : H.getD y 0 = z := by rw [← hz]; simp [List.getD, show y < H.length by omega]
          obtain ⟨hh, hhe⟩ : ∃ hh, hasT T (y : Int) = hh := ⟨_, rfl⟩
          have HR : Hid (∀ x, Calls Try.prog 26 #[.int .i64 (T : Int), .int .i64 (y : Int)] (upTo wr x) fun r w' => r = .returned (.bool hh) ∧ ∃ z, w' = upTo wr z) := Lib.hid fun x => by
            have := rhas_any (T : Int) (y : Int) (upTo wr x) ⟨by omega, by omega⟩
            rw [Int.toNat_natCast, hhe] at this
            exact call_up this
          have HC : Hid (∀ x, Calls Try.prog 31 #[.pointer (some ⟨b, 0, none⟩)] (upTo wr x) fun r w' => r = .returned (.int .i64 c) ∧ ∃ z, w' = upTo wr z) := Lib.hid fun x => by
            have := qCommit_any b n T m H P 0 (upTo wr x) (hqr.out.below (upTo_below wr x)) (by omega) (by omega)
            rw [Int.toNat_natCast, hc.out] at this
            exact call_up this
          have hbq' := Lib.hid hbq
          replace hno := Lib.hid hno
          replace hne := Lib.hid hne
          replace hhe := Lib.hid hhe
          replace hz := Lib.hid hz
          replace hzD := Lib.hid hzD
          replace hy := Lib.hid hy
          replace hgr := Lib.hid hgr
          clear hbq hxM2
          go_upto_region 18 with (fail)
          by_cases hit : hh = true ∧ c ≤ z
          · obtain ⟨hi1, hi2⟩ := hit
            subst hi1
            have d : decide (c ≤ z) = true := by simpa using hi2
            refine wp_region_up (by kernel_rfl) (by kernel_rfl) ?_
            repeat (go_big_quiet_step ((first | (go_at_call 26; exact HR.out _) | (go_at_call 31; exact HC.out _))))
            refine wpQuiet_nil ?_
            intro w8 hw8
            have hb8 := up_below hw8
            clear hw8
            have hB8 := hB6.out.trans ((hbq'.out.trans (hb8.mono hbq'.out.size)).mono hB6.out.size)
            go_wp2
            go_ret
            exact ⟨rfl, hB8⟩
          · have hres : ∀ j (h : j < Ms.length), j < k2 + 1 → ¬ (hasT T Ms[j] = true ∧ c ≤ H.getD Ms[j].toNat 0) := by
              intro j hj hjk
              by_cases hjk2 : j < k2
              · exact hne.out j hj hjk2
              · have : j = k2 := by omega
                subst this
                rw [hy.out, hhe.out, Int.toNat_natCast, hzD.out]
                exact hit
            replace hres := Lib.hid hres
            cases hh
            · clear hit
              refine wp_region_up (by kernel_rfl) (by kernel_rfl) ?_
              repeat (go_big_quiet_step ((first | (go_at_call 26; exact HR.out _) | (go_at_call 31; exact HC.out _))))
              refine wpQuiet_nil ?_
              intro w8 hw8
              have hb8 := up_below hw8
              clear hw8
              have hb68 := Lib.hid (hbq'.out.trans (hb8.mono hbq'.out.size))
              clear hb8
              go_wp2
              go_roundw
              case rel => exact ⟨k2 + 1, by omega, by go_num, hres.out, hb68.out⟩
              case measure => simp [intOf]; omega
            · have d : decide (c ≤ z) = false := by simp at hit ⊢; omega
              clear hit
              refine wp_region_up (by kernel_rfl) (by kernel_rfl) ?_
              repeat (go_big_quiet_step ((first | (go_at_call 26; exact HR.out _) | (go_at_call 31; exact HC.out _))))
              refine wpQuiet_nil ?_
              intro w8 hw8
              have hb8 := up_below hw8
              clear hw8
              have hb68 := Lib.hid (hbq'.out.trans (hb8.mono hbq'.out.size))
              clear hb8
              go_wp2
              go_roundw
              case rel => exact ⟨k2 + 1, by omega, by go_num, hres.out, hb68.out⟩
              case measure => simp [intOf]; omega
        · exfalso
          obtain ⟨x, hx, h1, h2⟩ := hmt.out
          obtain ⟨j, hj, rfl⟩ := List.getElem_of_mem hx
          exact hno j hj (by omega) ⟨h1, h2⟩

/-! the row's step, written out by law.py -/
set_option maxRecDepth 100000 in
theorem lifted (os : Os) (started : os.Started) (H : Type) (enc : TypeId × Value → H) :
    ReturnsInHanded {} Try.checked os 14 .any (Rows.quorumMeetSpec.pre6 enc Try.prog Try.f14 Rows.quorumMeetRow.domain false) (Rows.quorumMeetSpec.post enc Try.prog Try.f14 false true false false) := by
  refine returnsInHanded_of_change (C := Try.checked) own started (by kernel_rfl) Try.func14
    (ChangeSpec.witness6 (enc := enc) (C := Try.checked) false ⟨#[], #[.int .i64 0, .int .i64 0, .int .i64 0, .slice none 0 0], []⟩ 8 (by kernel_rfl) (by kernel_rfl) (by kernel_rfl) (by kernel_rfl)) ?_
  intro W base args ds gs before hval0 hW hcnd _
  have hval : ∀ (j : Nat) t v, Try.f14.params[j]? = some t → args[j]? = some v → Value.okWide Try.prog W .any base t v := hval0
  have hW' := hW
  obtain ⟨p, q, hA0, hV, rfl, hfz, hnd⟩ := hW
  have hA : DataW.TrodAll enc Try.prog W 0 (fun _ => true) true Try.f14.params.toList args.toList ds p := hA0
  rw [Try.params14] at hA hval
  obtain ⟨v0, vs0, d0, ds0, p0, q0, hargs, rfl, rfl, h0, r0⟩ := trodAll_cons hA
  obtain ⟨v1, vs1, d1, ds1, p1, q1, rfl, rfl, rfl, h1, r1⟩ := trodAll_cons r0
  obtain ⟨v2, vs2, d2, ds2, p2, q2, rfl, rfl, rfl, h2, r2⟩ := trodAll_cons r1
  obtain ⟨v3, vs3, d3, ds3, p3, q3, rfl, rfl, rfl, h3, r3⟩ := trodAll_cons r2
  obtain ⟨rfl, rfl, rfl⟩ := trodAll_nil r3
  obtain rfl : args = #[v0, v1, v2, v3] := by cases args; simp_all
  obtain ⟨rfl, rfl⟩ := trodVars_none hV
  have k0 := h0
  have lt0 : ∀ x ∈ p0, x.block < W.heap.size := by obtain ⟨m, hm⟩ := k0; exact DataW.trod_lt m _ _ _ hm
  have k1 := h1
  have lt1 : ∀ x ∈ p1, x.block < W.heap.size := by obtain ⟨m, hm⟩ := k1; exact DataW.trod_lt m _ _ _ hm
  have k2 := h2
  have lt2 : ∀ x ∈ p2, x.block < W.heap.size := by obtain ⟨m, hm⟩ := k2; exact DataW.trod_lt m _ _ _ hm
  have k3 := h3
  have lt3 : ∀ x ∈ p3, x.block < W.heap.size := by obtain ⟨m, hm⟩ := k3; exact DataW.trod_lt m _ _ _ hm
  obtain ⟨a0, rfl, rfl, rfl, w0⟩ := open_int Try.underlying3 (hval 0 3 v0 rfl rfl) h0
  have w0 := bounds_i64 w0
  obtain ⟨a1, rfl, rfl, rfl, w1⟩ := open_int Try.underlying3 (hval 1 3 v1 rfl rfl) h1
  have w1 := bounds_i64 w1
  obtain ⟨a2, rfl, rfl, rfl, w2⟩ := open_int Try.underlying3 (hval 2 3 v2 rfl rfl) h2
  have w2 := bounds_i64 w2
  obtain ⟨l3, w3, b3⟩ := rdI_open Try.underlying62 Try.underlying3 (by kernel_rfl) (hval 3 62 v3 rfl rfl) h3
  clear hA0 hval0
  simp only [List.append_nil] at hW'
  refine (walk a0 a1 a2 v3 l3 W w0 w1 w2 w3 b3).mono fun e W' ⟨he, bel⟩ => ?_
  subst he
  exact ⟨_, rfl, _, _, _, [], _, [], hW', trodAll_mk1 (shut_bool Try.underlying4 _), (trodAll_cons_mk (Below.trod laidOut (by kernel_rfl) (of_decide_eq_true (by kernel_rfl)) k0 bel lt0) (trodAll_cons_mk (Below.trod laidOut (by kernel_rfl) (of_decide_eq_true (by kernel_rfl)) k1 bel lt1) (trodAll_cons_mk (Below.trod laidOut (by kernel_rfl) (of_decide_eq_true (by kernel_rfl)) k2 bel lt2) (trodAll_cons_mk (Below.trod laidOut (by kernel_rfl) (of_decide_eq_true (by kernel_rfl)) k3 bel lt3) trodAll_mk0)))), rfl, bel.frame _, fun h => by cases h⟩

theorem over : Rows.quorumMeetRow.holds Try.pinned (OpenSpec.ofChange Rows.quorumMeetSpec) :=
  OpenClaim.holds_of_wide 14 Try.f14 rfl rfl rfl rfl rfl rfl rfl ⟨rfl, rfl, rfl, rfl, rfl⟩ rfl rfl rfl rfl rfl (by kernel_rfl) Try.func14 (by kernel_rfl)
    (of_decide_eq_true (by kernel_rfl)) (by unfold Func.isWrapper; first | (rw [if_pos (by decide +kernel)]; kernel_rfl) | (rw [if_neg (by decide +kernel)]; exact ⟨rfl, rfl⟩))
    (fun os started H enc _ => lifted os started H enc)

theorem proved : Rows.QuorumMeetSaid := over
end Go.Proofs.Ytimffflhfaiakaa.lawQuorumMeet
