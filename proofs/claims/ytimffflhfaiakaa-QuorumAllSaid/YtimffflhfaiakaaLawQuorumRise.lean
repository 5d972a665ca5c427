/- What stands fast, and what was answered, never falls: for all numbers and operations; no condition. -/
import Derived.Test.YtimffflhfaiakaaQnO
import Derived.Test.YtimffflhfaiakaaTeamC
namespace Go.Proofs.Ytimffflhfaiakaa.lawQuorumRise
open Go.ChangeShapes Go.WideShapes Go.ChangeAt Go.RowKit
set_option linter.unusedVariables false

/-- what holds of the numbers -/
structure Rz (H P : List Int) (last : Int) (k : Nat) : Prop where
  h0 : ∀ i, 0 ≤ H.getD i 0
  p0 : ∀ i, 0 ≤ P.getD i 0
  pl : ∀ i, P.getD i 0 ≤ last
  l0 : 0 ≤ last
  lk : last ≤ k
theorem Rz.ack {H P : List Int} {last : Int} {k id : Nat} {hv pr : Int} (h : Rz H P last k) (hH : H.length = 8) (hP : P.length = 8) (hid : id ≤ 7) : Rz (H.set id (max (H.getD id 0) hv)) (ackP P id pr last) last (k + 1) ∧
    (∀ i, H.getD i 0 ≤ (H.set id (max (H.getD id 0) hv)).getD i 0) ∧ ∀ i, P.getD i 0 ≤ (ackP P id pr last).getD i 0 := by
  have hp : ∀ i, P.getD i 0 ≤ (ackP P id pr last).getD i 0 ∧ (ackP P id pr last).getD i 0 ≤ last := by
    intro i
    unfold ackP
    by_cases hpl : pr ≤ last
    · rw [if_pos hpl, getD_set (by omega)]
      have := h.pl id
      have := h.pl i
      split
      · rename_i e; subst e; omega
      · omega
    · rw [if_neg hpl]; exact ⟨Int.le_refl _, h.pl i⟩
  refine ⟨⟨fun i => ?_, fun i => Int.le_trans (h.p0 i) (hp i).1, fun i => (hp i).2, h.l0, by have := h.lk; omega⟩, fun i => ?_, fun i => (hp i).1⟩
  · rw [getD_set (by omega)]
    have := h.h0 i
    have := h.h0 id
    split <;> omega
  · rw [getD_set (by omega)]
    split
    · rename_i e; subst e; omega
    · exact Int.le_refl _
theorem Rz.next {H P : List Int} {last : Int} {k m : Nat} (h : Rz H P last k) (hP : P.length = 8) (hm : m ≤ 7) : Rz H (P.set m (last + 1)) (last + 1) (k + 1) ∧ ∀ i, P.getD i 0 ≤ (P.set m (last + 1)).getD i 0 := by
  have := h.l0
  have := h.lk
  refine ⟨⟨h.h0, fun i => ?_, fun i => ?_, by omega, by omega⟩, fun i => ?_⟩
  all_goals
    rw [getD_set (by omega)]
    have := h.p0 i
    have := h.pl i
    split <;> omega

set_option maxRecDepth 100000 in
set_option maxHeartbeats 8000000 in
theorem walk (n mem : Int) (v : Value) (l : List Opq) (w : World) (hn : I64 n) (hmm : I64 mem) (hr : rdS 4 cOpq w v l) (_ : True) :
    Calls Try.prog 13 #[.int .i64 n, .int .i64 mem, v] w fun e w' => e = .returned (.bool true) ∧ Below w.heap.size w w' := by
  obtain ⟨a, cap, rfl, hmx, hM, ha⟩ := hr
  unfold maxLen at hM
  replace ha := Lib.hid ha
  clear hn hmm
  go_enter Try.func13, Try.ntmps13
  go_wp2_with fail
  refine (b21_any _).mono ?_
  rintro r w1 ⟨rfl, hb1⟩
  replace hb1 := Lib.hid hb1
  cases hm : mostT mem n
  · replace hm := Lib.hid hm
    go_wp2_with fail
    refine (rmost_any mem n _).mono ?_
    rintro r w2 ⟨rfl, hb2⟩
    rw [hm.out]
    have hB2 := hb1.out.trans (hb2.mono hb1.out.size)
    go_wp2
    go_ret
    exact ⟨rfl, hB2⟩
  obtain ⟨T, rfl⟩ : ∃ T : Nat, mem = T := by
    have h := hm
    simp only [mostT, Bool.and_eq_true] at h
    have := mayT_lt h.1
    exact ⟨mem.toNat, by omega⟩
  have hmH := Lib.hid hm
  go_wp2_with fail
  refine (rmost_any T n _).mono ?_
  rintro r w2 ⟨rfl, hb2⟩
  rw [hmH.out]
  have hB2 := Lib.hid (hb1.out.trans (hb2.mono hb1.out.size))
  clear hb2 hb1 hmH
  obtain ⟨hn3, hn7, hT, hmost, _⟩ := mostT_has hm
  have hl0 := list_first hm
  replace hm := Lib.hid hm
  go_wp2_with fail
  refine (rlist_nat T _ hT).mono ?_
  rintro r w3 ⟨vL, rfl, hoL, hb3⟩
  have hB3 := Lib.hid (hB2.out.trans (hb3.mono hB2.out.size))
  obtain ⟨aL, cL, rfl, hm1, hM1, hx1⟩ := hoL.rd
  obtain ⟨gL, oL, rfl, hxL⟩ := hx1 hl0
  have e0 := hxL 0 hl0
  obtain ⟨hme, hme1, hme7⟩ := list_has (List.getElem_mem hl0)
  generalize (listT T)[0] = me at e0 hme hme1 hme7
  rw [Nat.add_zero] at e0
  clear hxL hx1
  obtain ⟨m, rfl⟩ : ∃ m : Nat, me = m := ⟨me.toNat, by omega⟩
  unfold maxLen at hM1
  replace hoL := Lib.hid hoL
  have hme' : hasT (T : Int).toNat (m : Int) = true := by rw [Int.toNat_natCast]; exact hme
  replace hme' := Lib.hid hme'
  clear hme
  go_wp2_with fail
  refine (qNew_ok n T m _ hm.out hme'.out).mono ?_
  rintro r w4 ⟨rfl, hq4, hb4⟩
  have hB4 := Lib.hid (hB3.out.trans (hb4.mono hB3.out.size))
  obtain ⟨b, hb⟩ : ∃ b, b = w3.heap.size := ⟨_, rfl⟩
  rw [← hb] at hq4 ⊢
  have hwb : w.heap.size ≤ b := by have := hB3.out.size; omega
  replace hb := Lib.hid hb
  replace hq4 := Lib.hid hq4
  clear hb4 hb3 e0 hB2 hB3
  go_wp2
  go_loopw [9, 10, 11] (fun c p i wr => ∃ (k : Nat) (H P : List Int) (last vc vp : Int), k ≤ l.length ∧ k ≤ 60 ∧ i = .int .i64 k ∧ c = .int .i64 vc ∧ p = .int .i64 vp ∧ qO wr b n T m H P last ∧ Rz H P last k ∧ vc ≤ medS H n.toNat ∧ vp ≤ medS P n.toNat ∧ Below w.heap.size w wr) (fun _ _ i _ => l.length - (intOf i).toNat)
  case atStart =>
    have hz : 0 ≤ medS z8 n.toNat := by
      obtain ⟨i, _, e⟩ := medS_in (H := z8) rfl (n := n.toNat) (by omega) (by omega)
      rw [e, z8_get]; exact Int.le_refl _
    exact ⟨0, z8, z8, 0, 0, 0, Nat.zero_le _, Nat.zero_le _, rfl, rfl, rfl, hq4.out, ⟨fun i => by rw [z8_get]; exact Int.le_refl _, fun i => by rw [z8_get]; exact Int.le_refl _, fun i => by rw [z8_get]; exact Int.le_refl _, Int.le_refl _, Int.le_refl _⟩, hz, hz, hB4.out⟩
  case round =>
    obtain ⟨k, H, P, last, vc, vp, hk, hk60, rfl, rfl, rfl, hq, hR, hvc, hvp, hbel⟩ := hrel
    clear hq4 hB4
    by_cases hlt : k < l.length
    · by_cases hlt60 : k < 60
      · obtain ⟨g, off, rfl, hc⟩ := ha.out (by omega)
        have hck := cOpq.grow _ _ _ _ _ (hc k hlt) hbel
        clear hc
        generalize l[k] = x at hck
        obtain ⟨kd, id, hv, pr⟩ := x
        obtain ⟨c0, c1, c2, c3, c4, c5, c6⟩ := hck
        dsimp only at c0 c1 c2 c3 c4 c5 c6
        have hb5 := (Below.refl wr.heap.size wr).alloc (Nat.le_refl _) (.cells #[.int .i64 kd, .int .i64 id, .int .i64 hv, .int .i64 pr] 56)
        have hq5 := Lib.hid (hq.below hb5)
        have hB5 := Lib.hid (hbel.trans (hb5.mono hbel.size))
        have hHl := hq.2.1
        have hPl := hq.2.2
        have hl0' := hR.l0
        have hlk := hR.lk
        replace hvc := Lib.hid hvc
        replace hvp := Lib.hid hvp
        clear hb5 hq hbel
        have hn1 : 1 ≤ n.toNat := by omega
        have hn7' : n.toNat ≤ 7 := by omega
        have hmd : ∀ P : List Int, P.length = 8 → (∀ i, P.getD i 0 ≤ last) → medS P n.toNat ≤ last := fun P h1 h2 => by
          obtain ⟨i, _, e⟩ := medS_in h1 hn1 hn7'
          rw [e]; exact h2 _
        replace hmd := Lib.hid hmd
        by_cases hkd : kd = 0
        · subst hkd
          cases hok : (hasT (T : Int).toNat id && decide (0 ≤ hv) && decide (hv ≤ 60))
          · replace hok := Lib.hid hok
            replace hR := Lib.hid hR
            go_wp2_with fail
            refine (qAck_no b n T m H P last id hv pr _ hq5.out (by omega) hok.out).mono ?_
            rintro r w5 ⟨rfl, rfl⟩
            generalize World.alloc wr _ = w5 at hq5 hB5 ⊢
            have hm5 := Lib.hid (show vc ≤ medS H n.toNat ∧ vp ≤ medS P n.toNat ∧ medS P n.toNat ≤ last from ⟨hvc.out, hvp.out, hmd.out P hPl hR.out.pl⟩)
            have hR5 : Hid (Rz H P last (k + 1)) := Lib.hid ⟨hR.out.h0, hR.out.p0, hR.out.pl, hR.out.l0, by have := hR.out.lk; omega⟩
            clear c0 c1 c2 c3 hok
            have hqc := hq5.out
            have hC1 : ¬ medS H n.toNat < vc := by have := (hm5.out).1; omega
            have hC2 : ¬ medS P n.toNat < vp := by have := (hm5.out).2.1; omega
            have hC3 : ¬ last < medS P n.toNat := by have := (hm5.out).2.2; omega
            replace hqc := Lib.hid hqc
            go_wp2_with fail
            refine (qCommit_any b n T m H P last _ hqc.out hn3 hn7).mono ?_
            rintro r w6 ⟨rfl, hb6⟩
            have hq6 := Lib.hid (hqc.out.below hb6)
            have hB6 := Lib.hid (hB5.out.trans (hb6.mono hB5.out.size))
            clear hb6 hqc hB5
            go_wp2_with fail
            refine (qProbe_any b n T m H P last _ hq6.out hn3 hn7).mono ?_
            rintro r w7 ⟨rfl, hb7⟩
            have hq7 := Lib.hid (hq6.out.below hb7)
            have hB7 := Lib.hid (hB6.out.trans (hb7.mono hB6.out.size))
            clear hb7 hq6 hB6
            go_wp2_with fail
            refine (qProbe_any b n T m H P last _ hq7.out hn3 hn7).mono ?_
            rintro r w8 ⟨rfl, hb8⟩
            have hq8 := Lib.hid (hq7.out.below hb8)
            have hB8 := Lib.hid (hB7.out.trans (hb8.mono hB7.out.size))
            clear hb8 hq7 hB7
            go_wp2_with fail
            refine (qLast_any b n T m H P last _ hq8.out).mono ?_
            rintro r w9 ⟨rfl, rfl⟩
            go_wp2_with fail
            refine (qCommit_any b n T m H P last _ hq8.out hn3 hn7).mono ?_
            rintro r wa ⟨rfl, hba⟩
            have hqa := Lib.hid (hq8.out.below hba)
            have hBa := Lib.hid (hB8.out.trans (hba.mono hB8.out.size))
            clear hba hq8 hB8
            go_wp2_with fail
            refine (qProbe_any b n T m H P last _ hqa.out hn3 hn7).mono ?_
            rintro r wb ⟨rfl, hbb⟩
            have hqb := Lib.hid (hqa.out.below hbb)
            have hBb := Lib.hid (hBa.out.trans (hbb.mono hBa.out.size))
            clear hbb hqa hBa
            go_wp2
            go_roundw
            case rel => exact ⟨k + 1, H, P, last, _, _, by omega, by omega, by go_num, rfl, rfl, hqb.out, hR5.out, Int.le_refl _, Int.le_refl _, hBb.out⟩
            case measure => simp [intOf]; omega
          · simp only [Bool.and_eq_true, decide_eq_true_eq] at hok
            obtain ⟨⟨hid, hv0⟩, hv60⟩ := hok
            rw [Int.toNat_natCast] at hid
            obtain ⟨hi1, hi7⟩ := has_range hid
            obtain ⟨j, rfl⟩ : ∃ j : Nat, id = j := ⟨id.toNat, by omega⟩
            replace hid : Hid (hasT (T : Int).toNat (j : Int) = true) := Lib.hid (by rw [Int.toNat_natCast]; exact hid)
            obtain ⟨hR1, hRh, hRp⟩ := Rz.ack (hv := hv) (pr := pr) hR hHl hPl (show j ≤ 7 by omega)
            go_wp2_with fail
            refine (qAck_yes b n T m H P last j hv pr _ hq5.out (by omega) hid.out (by omega) (by omega) hv0 hv60).mono ?_
            rintro r w5 ⟨rfl, hq5', hc5⟩
            have hB5 := Lib.hid (hB5.out.trans (hc5.below hB5.out.size fun k hk => by have : k = b := hk; omega))
            have hm5 := Lib.hid (show vc ≤ medS (H.set j (max (H.getD j 0) hv)) n.toNat ∧ vp ≤ medS (ackP P j pr last) n.toNat ∧ medS (ackP P j pr last) n.toNat ≤ last from ⟨Int.le_trans hvc.out (medS_mono hHl hq5'.2.1 hn1 hn7' hRh), Int.le_trans hvp.out (medS_mono hPl hq5'.2.2 hn1 hn7' hRp), hmd.out _ hq5'.2.2 hR1.pl⟩)
            have hR5 := Lib.hid hR1
            replace hq5 := Lib.hid hq5'
            generalize H.set j (max (H.getD j 0) hv) = H1 at hq5 hm5 hR5
            generalize ackP P j pr last = P1 at hq5 hm5 hR5
            clear c0 c1 c2 c3 hc5 hR1 hRh hRp hq5' hR hid
            have hqc := hq5.out
            have hC1 : ¬ medS H1 n.toNat < vc := by have := (hm5.out).1; omega
            have hC2 : ¬ medS P1 n.toNat < vp := by have := (hm5.out).2.1; omega
            have hC3 : ¬ last < medS P1 n.toNat := by have := (hm5.out).2.2; omega
            replace hqc := Lib.hid hqc
            go_wp2_with fail
            refine (qCommit_any b n T m H1 P1 last _ hqc.out hn3 hn7).mono ?_
            rintro r w6 ⟨rfl, hb6⟩
            have hq6 := Lib.hid (hqc.out.below hb6)
            have hB6 := Lib.hid (hB5.out.trans (hb6.mono hB5.out.size))
            clear hb6 hqc hB5
            go_wp2_with fail
            refine (qProbe_any b n T m H1 P1 last _ hq6.out hn3 hn7).mono ?_
            rintro r w7 ⟨rfl, hb7⟩
            have hq7 := Lib.hid (hq6.out.below hb7)
            have hB7 := Lib.hid (hB6.out.trans (hb7.mono hB6.out.size))
            clear hb7 hq6 hB6
            go_wp2_with fail
            refine (qProbe_any b n T m H1 P1 last _ hq7.out hn3 hn7).mono ?_
            rintro r w8 ⟨rfl, hb8⟩
            have hq8 := Lib.hid (hq7.out.below hb8)
            have hB8 := Lib.hid (hB7.out.trans (hb8.mono hB7.out.size))
            clear hb8 hq7 hB7
            go_wp2_with fail
            refine (qLast_any b n T m H1 P1 last _ hq8.out).mono ?_
            rintro r w9 ⟨rfl, rfl⟩
            go_wp2_with fail
            refine (qCommit_any b n T m H1 P1 last _ hq8.out hn3 hn7).mono ?_
            rintro r wa ⟨rfl, hba⟩
            have hqa := Lib.hid (hq8.out.below hba)
            have hBa := Lib.hid (hB8.out.trans (hba.mono hB8.out.size))
            clear hba hq8 hB8
            go_wp2_with fail
            refine (qProbe_any b n T m H1 P1 last _ hqa.out hn3 hn7).mono ?_
            rintro r wb ⟨rfl, hbb⟩
            have hqb := Lib.hid (hqa.out.below hbb)
            have hBb := Lib.hid (hBa.out.trans (hbb.mono hBa.out.size))
            clear hbb hqa hBa
            go_wp2
            go_roundw
            case rel => exact ⟨k + 1, H1, P1, last, _, _, by omega, by omega, by go_num, rfl, rfl, hqb.out, hR5.out, Int.le_refl _, Int.le_refl _, hBb.out⟩
            case measure => simp [intOf]; omega
        · have d : (kd == 0) = false := by simpa using hkd
          obtain ⟨hR1, hRp⟩ := Rz.next hR hPl (show m ≤ 7 by omega)
          replace hR := Lib.hid hR
          go_wp2_with fail
          refine (qNext_any b n T m H P last m _ hq5.out rfl (by omega) hl0' (by omega)).mono ?_
          rintro r w5 ⟨rfl, hq5', hc5⟩
          have hB5 := Lib.hid (hB5.out.trans (hc5.below hB5.out.size fun k hk => by have : k = b := hk; omega))
          have hm5 := Lib.hid (show vc ≤ medS H n.toNat ∧ vp ≤ medS (P.set m (last + 1)) n.toNat ∧ medS (P.set m (last + 1)) n.toNat ≤ last + 1 from ⟨hvc.out, Int.le_trans hvp.out (medS_mono hPl hq5'.2.2 hn1 hn7' hRp), by
            obtain ⟨i, _, e⟩ := medS_in hq5'.2.2 hn1 hn7'
            rw [e]; exact hR1.pl _⟩)
          have hR5 := Lib.hid hR1
          replace hq5 := Lib.hid hq5'
          have hl1 : 0 ≤ last + 1 := by omega
          generalize P.set m (last + 1) = P1 at hq5 hm5 hR5
          generalize last + 1 = l1 at hq5 hm5 hR5 hl1
          clear c0 c1 c2 c3 hc5 hR1 hRp hq5' hmd
          have hqc := hq5.out
          have hC1 : ¬ medS H n.toNat < vc := by have := (hm5.out).1; omega
          have hC2 : ¬ medS P1 n.toNat < vp := by have := (hm5.out).2.1; omega
          have hC3 : ¬ l1 < medS P1 n.toNat := by have := (hm5.out).2.2; omega
          replace hqc := Lib.hid hqc
          go_wp2_with fail
          refine (qCommit_any b n T m H P1 l1 _ hqc.out hn3 hn7).mono ?_
          rintro r w6 ⟨rfl, hb6⟩
          have hq6 := Lib.hid (hqc.out.below hb6)
          have hB6 := Lib.hid (hB5.out.trans (hb6.mono hB5.out.size))
          clear hb6 hqc hB5
          go_wp2_with fail
          refine (qProbe_any b n T m H P1 l1 _ hq6.out hn3 hn7).mono ?_
          rintro r w7 ⟨rfl, hb7⟩
          have hq7 := Lib.hid (hq6.out.below hb7)
          have hB7 := Lib.hid (hB6.out.trans (hb7.mono hB6.out.size))
          clear hb7 hq6 hB6
          go_wp2_with fail
          refine (qProbe_any b n T m H P1 l1 _ hq7.out hn3 hn7).mono ?_
          rintro r w8 ⟨rfl, hb8⟩
          have hq8 := Lib.hid (hq7.out.below hb8)
          have hB8 := Lib.hid (hB7.out.trans (hb8.mono hB7.out.size))
          clear hb8 hq7 hB7
          go_wp2_with fail
          refine (qLast_any b n T m H P1 l1 _ hq8.out).mono ?_
          rintro r w9 ⟨rfl, rfl⟩
          go_wp2_with fail
          refine (qCommit_any b n T m H P1 l1 _ hq8.out hn3 hn7).mono ?_
          rintro r wa ⟨rfl, hba⟩
          have hqa := Lib.hid (hq8.out.below hba)
          have hBa := Lib.hid (hB8.out.trans (hba.mono hB8.out.size))
          clear hba hq8 hB8
          go_wp2_with fail
          refine (qProbe_any b n T m H P1 l1 _ hqa.out hn3 hn7).mono ?_
          rintro r wb ⟨rfl, hbb⟩
          have hqb := Lib.hid (hqa.out.below hbb)
          have hBb := Lib.hid (hBa.out.trans (hbb.mono hBa.out.size))
          clear hbb hqa hBa
          go_wp2
          go_roundw
          case rel => exact ⟨k + 1, H, P1, l1, _, _, by omega, by omega, by go_num, rfl, rfl, hqb.out, hR5.out, Int.le_refl _, Int.le_refl _, hBb.out⟩
          case measure => simp [intOf]; omega
      · go_wp2
        go_ret
        exact ⟨rfl, hbel⟩
    · go_wp2
      go_ret
      exact ⟨rfl, hbel⟩

/-! the row's step, written out by law.py -/
set_option maxRecDepth 100000 in
theorem lifted (os : Os) (started : os.Started) (H : Type) (enc : TypeId × Value → H) :
    ReturnsInHanded {} Try.checked os 13 .any (Rows.quorumRiseSpec.pre6 enc Try.prog Try.f13 Rows.quorumRiseRow.domain false) (Rows.quorumRiseSpec.post enc Try.prog Try.f13 false true false false) := by
  refine returnsInHanded_of_change (C := Try.checked) own started (by kernel_rfl) Try.func13
    (ChangeSpec.witness6 (enc := enc) (C := Try.checked) false ⟨#[], #[.int .i64 0, .int .i64 0, .slice none 0 0], []⟩ 8 (by kernel_rfl) (by kernel_rfl) (by kernel_rfl) (by kernel_rfl)) ?_
  intro W base args ds gs before hval0 hW hcnd _
  have hval : ∀ (j : Nat) t v, Try.f13.params[j]? = some t → args[j]? = some v → Value.okWide Try.prog W .any base t v := hval0
  have hW' := hW
  obtain ⟨p, q, hA0, hV, rfl, hfz, hnd⟩ := hW
  have hA : DataW.TrodAll enc Try.prog W 0 (fun _ => true) true Try.f13.params.toList args.toList ds p := hA0
  rw [Try.params13] at hA hval
  obtain ⟨v0, vs0, d0, ds0, p0, q0, hargs, rfl, rfl, h0, r0⟩ := trodAll_cons hA
  obtain ⟨v1, vs1, d1, ds1, p1, q1, rfl, rfl, rfl, h1, r1⟩ := trodAll_cons r0
  obtain ⟨v2, vs2, d2, ds2, p2, q2, rfl, rfl, rfl, h2, r2⟩ := trodAll_cons r1
  obtain ⟨rfl, rfl, rfl⟩ := trodAll_nil r2
  obtain rfl : args = #[v0, v1, v2] := by cases args; simp_all
  obtain ⟨rfl, rfl⟩ := trodVars_none hV
  have k0 := h0
  have lt0 : ∀ x ∈ p0, x.block < W.heap.size := by obtain ⟨m, hm⟩ := k0; exact DataW.trod_lt m _ _ _ hm
  have k1 := h1
  have lt1 : ∀ x ∈ p1, x.block < W.heap.size := by obtain ⟨m, hm⟩ := k1; exact DataW.trod_lt m _ _ _ hm
  have k2 := h2
  have lt2 : ∀ x ∈ p2, x.block < W.heap.size := by obtain ⟨m, hm⟩ := k2; exact DataW.trod_lt m _ _ _ hm
  obtain ⟨a0, rfl, rfl, rfl, w0⟩ := open_int Try.underlying3 (hval 0 3 v0 rfl rfl) h0
  have w0 := bounds_i64 w0
  obtain ⟨a1, rfl, rfl, rfl, w1⟩ := open_int Try.underlying3 (hval 1 3 v1 rfl rfl) h1
  have w1 := bounds_i64 w1
  obtain ⟨l2, w2, b2⟩ := slop21_open (hval 2 45 v2 rfl rfl) h2
  clear hA0 hval0
  simp only [List.append_nil] at hW'
  refine (walk a0 a1 v2 l2 W w0 w1 w2 b2).mono fun e W' ⟨he, bel⟩ => ?_
  subst he
  exact ⟨_, rfl, _, _, _, [], _, [], hW', trodAll_mk1 (shut_bool Try.underlying4 _), (trodAll_cons_mk (Below.trod laidOut (by kernel_rfl) (of_decide_eq_true (by kernel_rfl)) k0 bel lt0) (trodAll_cons_mk (Below.trod laidOut (by kernel_rfl) (of_decide_eq_true (by kernel_rfl)) k1 bel lt1) (trodAll_cons_mk (Below.trod laidOut (by kernel_rfl) (of_decide_eq_true (by kernel_rfl)) k2 bel lt2) trodAll_mk0))), rfl, bel.frame _, fun h => by cases h⟩

theorem over : Rows.quorumRiseRow.holds Try.pinned (OpenSpec.ofChange Rows.quorumRiseSpec) :=
  OpenClaim.holds_of_wide 13 Try.f13 rfl rfl rfl rfl rfl rfl rfl ⟨rfl, rfl, rfl, rfl, rfl⟩ rfl rfl rfl rfl rfl (by kernel_rfl) Try.func13 (by kernel_rfl)
    (of_decide_eq_true (by kernel_rfl)) (by unfold Func.isWrapper; first | (rw [if_pos (by decide +kernel)]; kernel_rfl) | (rw [if_neg (by decide +kernel)]; exact ⟨rfl, rfl⟩))
    (fun os started H enc _ => lifted os started H enc)

theorem proved : Rows.QuorumRiseSaid := over
end Go.Proofs.Ytimffflhfaiakaa.lawQuorumRise

