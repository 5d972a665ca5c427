/- Contracts: the reference's Log and Put. -/
import Derived.Test.YtnkiifodcmfmiaaPutP
import Derived.StillTailTactics
namespace Go.Proofs.Ytnkiifodcmfmiaa
open Go.RowKit
set_option linter.unusedVariables false

theorem r12Add_any (v : Value) (l : List Ent) (e : Ent) (B : Nat) (w : World) (hr : ownE w B 34 v l) (hl : l.length ≤ 60) (hB : B ≤ w.heap.size) :
    Calls Try.prog 15 #[v, e.val] w fun r w' => ∃ v', r = .returned (.tuple #[v', .bool (okAdd l e)]) ∧ ownE w' B 34 v' (addE l e) ∧ Below w.heap.size w w' := by
  cases h : okAdd l e
  · refine (r12Add_no v l e w (ownE_base hr (Nat.zero_le _)) h (by omega)).mono ?_
    rintro r w' ⟨rfl, hb⟩
    have e : addE l e = l := by rw [addE, if_neg (by rw [h]; exact Bool.false_ne_true)]
    rw [e]
    exact ⟨v, rfl, ownE_grow hr hb, hb⟩
  · refine (r12Add_yes v l e w (ownE_base hr (Nat.zero_le _)) h).mono ?_
    rintro r w' ⟨v', rfl, ho, hb⟩
    have e : addE l e = l ++ [e] := by rw [addE, if_pos h]
    rw [e]
    exact ⟨v', rfl, ownE_base ho hB, hb⟩

set_option maxHeartbeats 400000 in
theorem r12Log_any (v : Value) (es : List Ent) (w : World) (hr : rdE w v es) :
    Calls Try.prog 14 #[v] w fun r w' => ∃ v', r = .returned v' ∧ ownE w' w.heap.size 34 v' (logE es) ∧ Below w.heap.size w w' := by
  obtain ⟨a, cap, rfl, hm, hM, ha⟩ := hr
  unfold maxLen at hM
  replace ha := Lib.hid ha
  go_enter Try.func14, Try.ntmps14
  go_wp2
  go_loopw [3, 4] (fun u i wr => ∃ k : Nat, k ≤ es.length ∧ i = .int .i64 k ∧ ownE wr w.heap.size 34 u (logE (es.take k)) ∧ Below w.heap.size w wr) (fun _ i _ => es.length - (intOf i).toNat)
  case atStart => exact ⟨0, Nat.zero_le _, rfl, World.ownsRow_nil _ _ _ _, Below.refl _ _⟩
  case round =>
    obtain ⟨k, hk, rfl, hlg, hbel⟩ := hrel
    replace hlg := Lib.hid hlg
    by_cases hlt : k < es.length
    · obtain ⟨bl, off, rfl, hc⟩ := ha.out (by omega)
      have hck := at_later (hc k hlt) hbel
      have hs := Lib.hid (logE_snoc es k hlt)
      clear hc
      generalize es[k] = x at hck hs
      obtain ⟨c0, c1, c2, c3, c4, c5, c6⟩ := hck
      have hsz := hbel.size
      have hl60 := logE_len (es.take k)
      go_wp2_with fail
      refine (r12Add_any _ _ x w.heap.size _ hlg.out hl60 hsz).mono ?_
      rintro r w1 ⟨v', rfl, ho, hb1⟩
      have hB1 := hbel.trans (hb1.mono hsz)
      rw [← hs.out] at ho
      clear hb1 hbel c0 c1 c2 c3 c4 c5 c6
      go_wp2
      go_roundw
      case rel => exact ⟨k + 1, by omega, by go_num, ho, hB1⟩
      case measure => simp [intOf]; omega
    · obtain rfl : k = es.length := by omega
      rw [List.take_length] at hlg
      go_wp2
      go_ret
      exact ⟨_, rfl, hlg.out, hbel⟩

set_option maxHeartbeats 1000000 in
theorem r12Put_any (v v2 : Value) (l es : List Ent) (k : Int) (B : Nat) (w : World) (hr : ownE w B 34 v l) (hr2 : rdE w v2 es) (hl : l.length ≤ 60) (hB : B ≤ w.heap.size) (hk0 : -9223372036854775808 ≤ k) (hk1 : k ≤ 9223372036854775807) :
    Calls Try.prog 17 #[v, .int .i64 k, v2] w fun r w' => ∃ v', r = .returned (.tuple #[v', .bool (putE l k es).isSome]) ∧ ownE w' B 34 v' ((putE l k es).getD l) ∧ Below w.heap.size w w' := by
  obtain ⟨a0, cap0, rfl⟩ := hr.rd.len
  obtain ⟨a2, cap2, rfl, hm2, hM2, ha2⟩ := hr2
  unfold maxLen at hM2
  by_cases h0 : k < 0
  · have e : putE l k es = none := by rw [putE, if_pos (.inl h0)]
    rw [e]
    clear ha2
    go_enter Try.func17, Try.ntmps17
    go_wp2
    go_ret2
    exact ⟨_, rfl, hr, Below.refl _ _⟩
  · obtain ⟨K, rfl⟩ := Int.eq_ofNat_of_zero_le (show 0 ≤ k by omega)
    by_cases h1 : l.length < K
    · have e : putE l (K : Int) es = none := by rw [putE, if_pos (.inr (by omega))]
      rw [e]
      clear ha2
      go_enter Try.func17, Try.ntmps17
      go_wp2
      go_ret2
      exact ⟨_, rfl, hr, Below.refl _ _⟩
    · have HE := Lib.hid (show putE l (K : Int) es = putTo l K es es.length by rw [putE, if_neg (by omega), Int.toNat_natCast])
      have hKl : K ≤ l.length := by omega
      have hlr := Lib.hid hr.rd
      replace hr := Lib.hid hr
      replace ha2 := Lib.hid ha2
      have hq1 : decide (l.length < K) = false := by simp; omega
      have hq2 : decide ((K : Int) < 0) = false := by simp <;> omega
      clear h1 h0
      go_enter Try.func17, Try.ntmps17
      go_wp2
      go_loopw [8, 9] (fun u c wr => ∃ (i : Nat) (m : List Ent), i ≤ es.length ∧ c = .int .i64 i ∧ putTo l K es i = some m ∧ ownE wr B 34 u m ∧ Below w.heap.size w wr) (fun _ c _ => es.length - (intOf c).toNat)
      case atStart => exact ⟨0, l, Nat.zero_le _, rfl, rfl, hr.out, Below.refl _ _⟩
      case round =>
        obtain ⟨i, m, hi, rfl, hput, hown, hbel⟩ := hrel
        have hm60 := putTo_len hl hput
        replace hput := Lib.hid hput
        replace hown := Lib.hid hown
        have hsz := hbel.size
        by_cases hlt : i < es.length
        · obtain ⟨bl, off, rfl, hc⟩ := ha2.out (by omega)
          have hck := at_later (hc i hlt) hbel
          have hge := Lib.hid (getD_lt hlt)
          clear hc
          generalize es[i] = x at hck hge
          obtain ⟨c0, c1, c2, c3, c4, c5, c6⟩ := hck
          by_cases hfr : i < l.length - K
          · have hKi : K + i < l.length := by omega
            obtain ⟨a', cap', he, hm', hM', ha⟩ := hlr.out
            injection he with he1 he2 he3
            subst he1 he3
            obtain ⟨bl0, off0, rfl, hc⟩ := ha (by omega)
            have hck := at_later (hc (K + i) hKi) hbel
            have hge0 := Lib.hid (getD_lt hKi)
            clear hc ha hm' hM'
            generalize l[K + i] = y at hck hge0
            obtain ⟨d0, d1, d2, d3, d4, d5, d6⟩ := hck
            have hst : Hid (∀ b, eqE y x = b → putTo l K es (i + 1) = if b = true then some m else none) := Lib.hid (fun b hb => by
              rw [putTo, hput.out, hge0.out, hge.out]; simp only [if_pos hfr, hb])
            have hd1 : decide ((i : Int) < (l.length : Int) - (K : Int)) = true := by simp; omega
            have u0 := upTo_cell c0
            have u1 := upTo_cell c1
            have u2 := upTo_cell c2
            have u3 := upTo_cell c3
            have u4 := upTo_cell c4
            have u5 := upTo_cell c5
            have u6 := upTo_cell c6
            have t0 := upTo_cell d0
            have t1 := upTo_cell d1
            have t2 := upTo_cell d2
            have t3 := upTo_cell d3
            have t4 := upTo_cell d4
            have t5 := upTo_cell d5
            have t6 := upTo_cell d6
            clear c0 c1 c2 c3 c4 c5 c6 d0 d1 d2 d3 d4 d5 d6
            have hR : ∀ b, eqE y x = b → Hid (∀ z, Calls Try.prog 31 #[y.val, x.val] (upTo wr z) fun r w' => r = .returned (.bool b) ∧ ∃ y, w' = upTo wr y) := fun b h z => by
              rw [← h]; exact call_up (req_any y x (upTo wr z))
            go_wp2
            cases hsm : eqE y x
            · have hn := Lib.hid (putTo_none (hst.out false hsm) (show i + 1 ≤ es.length from hlt))
              have hR1 := hR _ hsm
              clear hR hsm
              refine wp_region_up (by kernel_rfl) (by kernel_rfl) ?_
              repeat (go_big_quiet_step ((go_at_call 31; exact hR1.out _)))
              refine wpQuiet_nil ?_
              intro w2 hw2
              have hb2 := up_below hw2
              clear hw2 u0 u1 u2 u3 u4 u5 u6 t0 t1 t2 t3 t4 t5 t6
              have hbel3 := hbel.trans (hb2.mono hsz)
              have hr3 : ownE w2 B 34 _ l := ownE_grow hr.out hbel3
              clear hb2 hbel hown
              go_wp2
              go_ret2
              rw [HE.out, hn.out]
              exact ⟨_, rfl, hr3, hbel3⟩
            · have hR1 := hR _ hsm
              have hst2 := Lib.hid (hst.out true hsm)
              clear hR hsm hst
              refine wp_region_up (by kernel_rfl) (by kernel_rfl) ?_
              repeat (go_big_quiet_step ((go_at_call 31; exact hR1.out _)))
              refine wpQuiet_nil ?_
              intro w2 hw2
              have hb2 := up_below hw2
              clear hw2 u0 u1 u2 u3 u4 u5 u6 t0 t1 t2 t3 t4 t5 t6
              have hbel3 := hbel.trans (hb2.mono hsz)
              have hown3 : ownE w2 B 34 u8 m := ownE_grow hown.out hb2
              clear hb2 hbel hown
              go_wp2
              go_roundw
              case rel => exact ⟨i + 1, m, by omega, by go_num, hst2.out, hown3, hbel3⟩
              case measure => simp [intOf]; omega
          · have hst : Hid (∀ b, okAdd m x = b → putTo l K es (i + 1) = if b = true then some (m ++ [x]) else none) := Lib.hid (fun b hb => by
              rw [putTo, hput.out, hge.out]; simp only [if_neg hfr, hb])
            have hd1 : decide ((i : Int) < (l.length : Int) - (K : Int)) = false := by simp; omega
            go_wp2_with fail
            refine (r12Add_any _ m x B _ hown.out hm60 (by omega)).mono ?_
            rintro r w3 ⟨v', rfl, ho3, hb3⟩
            have hbel3 := hbel.trans (hb3.mono hsz)
            clear hb3 hbel c0 c1 c2 c3 c4 c5 c6 hown
            cases hsm : okAdd m x
            · have hn := Lib.hid (putTo_none (hst.out false hsm) (show i + 1 ≤ es.length from hlt))
              have hr3 : ownE w3 B 34 _ l := ownE_grow hr.out hbel3
              go_wp2
              go_ret2
              rw [HE.out, hn.out]
              exact ⟨_, rfl, hr3, hbel3⟩
            · rw [addE, if_pos hsm] at ho3
              have hst2 := Lib.hid (hst.out true hsm)
              clear hst hsm
              go_wp2
              go_roundw
              case rel => exact ⟨i + 1, m ++ [x], by omega, by go_num, hst2.out, ho3, hbel3⟩
              case measure => simp [intOf]; omega
        · obtain rfl : i = es.length := by omega
          go_wp2
          go_ret2
          rw [HE.out, hput.out]
          exact ⟨_, rfl, hown.out, hbel⟩
end Go.Proofs.Ytnkiifodcmfmiaa
