/- Contract: does a log hold just those? (it does) -/
import Derived.Test.YtnkiifodcmfmiaaLogC
import Derived.Test.YtnkiifodcmfmiaaRefB
import Derived.Test.YtnkiifodcmfmiaaPlan
namespace Go.Proofs.Ytnkiifodcmfmiaa
open Go.RowKit
set_option linter.unusedVariables false

theorem hasE_self {l : List Ent} {k : Nat} (h : k < l.length) : hasE l l[k] = true := by
  unfold hasE; rw [List.any_eq_true]; exact ⟨l[k], List.getElem_mem h, by simp [sameE]⟩

/-- an entry's cells in all that goes on from w -/
theorem cellsE_up {w : World} {b o : Nat} {e : Ent} (h : cellsE w b o e) : (∀ x, (upTo w x).cell? ⟨b, o, none⟩ = some (.int .i64 e.frm)) ∧ (∀ x, (upTo w x).cell? ⟨b, o + 1, none⟩ = some (.int .i64 e.boot)) ∧
    (∀ x, (upTo w x).cell? ⟨b, o + 2, none⟩ = some (.int .i64 e.seq)) ∧ (∀ x, (upTo w x).cell? ⟨b, o + 3, none⟩ = some (.int .i64 e.ord)) ∧ (∀ x, (upTo w x).cell? ⟨b, o + 4, none⟩ = some (.int .i64 e.lev)) ∧
    (∀ x, (upTo w x).cell? ⟨b, o + 5, none⟩ = some (.int .i64 e.stamp)) ∧ (∀ x, (upTo w x).cell? ⟨b, o + 6, none⟩ = some (.string e.data)) := by
  obtain ⟨c0, c1, c2, c3, c4, c5, c6⟩ := h
  exact ⟨upTo_cell c0, upTo_cell c1, upTo_cell c2, upTo_cell c3, upTo_cell c4, upTo_cell c5, upTo_cell c6⟩
theorem cellsE_up0 {w : World} {b : Nat} {e : Ent} (h : cellsE w b 0 e) : (∀ x, (upTo w x).cell? ⟨b, 0, none⟩ = some (.int .i64 e.frm)) ∧ (∀ x, (upTo w x).cell? ⟨b, 1, none⟩ = some (.int .i64 e.boot)) ∧
    (∀ x, (upTo w x).cell? ⟨b, 2, none⟩ = some (.int .i64 e.seq)) ∧ (∀ x, (upTo w x).cell? ⟨b, 3, none⟩ = some (.int .i64 e.ord)) ∧ (∀ x, (upTo w x).cell? ⟨b, 4, none⟩ = some (.int .i64 e.lev)) ∧
    (∀ x, (upTo w x).cell? ⟨b, 5, none⟩ = some (.int .i64 e.stamp)) ∧ (∀ x, (upTo w x).cell? ⟨b, 6, none⟩ = some (.string e.data)) := by
  have := cellsE_up h
  simpa using this

set_option maxHeartbeats 2000000 in
theorem same13_yes (b : Nat) (v : Value) (l : List Ent) (w : World) (hr : rdLog w b l) (hr2 : rdE w v l) (hl : l.length ≤ 60) :
    Calls Try.prog 19 #[.pointer (some ⟨b, 0, none⟩), v] w fun r w' => r = .returned (.bool true) ∧ Below w.heap.size w w' := by
  replace hr := Lib.hid hr
  have hR2 := Lib.hid hr2
  obtain ⟨a, cap, rfl, hm, hM, ha⟩ := hr2
  unfold maxLen at hM
  replace ha := Lib.hid ha
  have he0 := Lib.hid (eqAll_refl l)
  have hf0 : Hid (fromE l 0 = l) := Lib.hid (by simp [fromE])
  go_enter Try.func19, Try.ntmps19
  go_wp2_with fail
  refine (logLen_any b l _ hr.out).mono ?_
  rintro r w1 ⟨rfl, rfl⟩
  go_wp2_with fail
  refine (logFrom_any b l 0 _ hr.out (by omega)).mono ?_
  rintro r w1 ⟨v1, rfl, ho1, hb1⟩
  rw [hf0.out] at ho1
  go_wp2_with fail
  refine (r12EqAll_any _ _ l l _ ho1.rd (hR2.out.grow hb1)).mono ?_
  rintro r w2 ⟨rfl, hb2⟩
  rw [he0.out]
  have hB2 := hb1.trans (hb2.mono hb1.size)
  clear hb1 hb2 ho1
  go_wp2
  go_loopw [5] (fun i wr => ∃ k : Nat, k ≤ l.length ∧ i = .int .i64 k ∧ Below w.heap.size w wr) (fun i _ => l.length - (intOf i).toNat)
  case atStart => exact ⟨0, Nat.zero_le _, rfl, hB2⟩
  case round =>
    obtain ⟨k, hk, rfl, hbel⟩ := hrel
    clear hB2
    by_cases hlt : k < l.length
    · go_wp2_with fail
      refine (logAt_yes b l k _ (hr.out.grow hbel) hlt).mono ?_
      rintro r w3 ⟨rfl, hb3⟩
      have hB3 := hbel.trans (hb3.mono hbel.size)
      obtain ⟨bl, off, rfl, hc⟩ := ha.out (by omega)
      have hcx := hc k hlt
      have hdr := Lib.hid (rdE_drop hR2.out k hlt)
      have hself := Lib.hid (hasE_self hlt)
      have hfk : Hid (fromE l (k : Int) = l.drop k) := Lib.hid (by rw [fromE, if_neg (by omega), Int.toNat_natCast])
      have hne : ¬ cap = k := by omega
      clear hc hb3 hbel
      generalize l[k] = x at hcx hself ⊢
      have hbx := box_cells w3 x 34
      have hb4 : Below w3.heap.size w3 (w3.alloc (boxE x)) := (Below.refl _ _).alloc (Nat.le_refl _) _
      have hB4 := hB3.trans (hb4.mono hB3.size)
      replace hbx := Lib.hid hbx
      replace hB4 := Lib.hid hB4
      clear hb4
      go_upto_region 7 with (fail)
      generalize hW : World.alloc w3 _ = W
      rw [hW] at hbx hB4
      clear hW
      generalize w3.heap.size = be at hbx ⊢
      obtain ⟨f0, f1, f2, f3, f4, f5, f6⟩ := cellsE_up0 hbx.out
      have hcx4 := hcx.below hB4.out hcx.lt
      obtain ⟨e0, e1, e2, e3, e4, e5, e6⟩ := cellsE_up hcx4
      refine wp_region_plan [(0, false), (1, false), (2, false), (3, false), (4, false), (5, false), (6, false), (7, false), (8, true), (9, false), (10, false), (11, false), (12, false), (13, false), (14, false), (15, false), (16, false), (17, true), (18, false), (19, false), (20, false), (21, false), (22, false), (24, false), (25, false), (26, false), (23, true), (27, true), (28, false), (29, false)] (by kernel_rfl) (by kernel_rfl) ?_
      repeat (refine plan_q rfl ?_; go_big_quiet_step (fail); refine wpQuiet_nil ?_)
      refine plan_l rfl rfl ?_
      intro w5 hb5 K hK
      go_simp
      refine (req_any x x _).mono ?_
      rintro r w6 ⟨rfl, hb6⟩
      rw [eqE_refl]
      refine hK _ _ hb6 ?_
      clear hK K e0 e1 e2 e3 e4 e5 e6 f0 f1 f2 f3 f4 f5 f6
      have hB6 := (hB4.out.trans (hb5.mono hB4.out.size)).trans (hb6.mono (Nat.le_trans hB4.out.size hb5.size))
      clear hb5 hb6
      obtain ⟨e0, e1, e2, e3, e4, e5, e6⟩ := cellsE_up (hcx.below hB6 hcx.lt)
      repeat (refine plan_q rfl ?_; go_big_quiet_step (fail); refine wpQuiet_nil ?_)
      refine plan_l rfl rfl ?_
      intro w7 hb7 K hK
      have hB7 := hB6.trans (hb7.mono hB6.size)
      go_simp
      refine (logHas_any b l x _ (hr.out.grow hB7)).mono ?_
      rintro r w8 ⟨rfl, hb8⟩
      rw [hself.out]
      refine hK _ _ hb8 ?_
      clear hK K e0 e1 e2 e3 e4 e5 e6
      have hB8 := hB7.trans (hb8.mono hB7.size)
      clear hb7 hb8 hB6 hB7
      repeat (refine plan_q rfl ?_; go_big_quiet_step (fail); refine wpQuiet_nil ?_)
      refine plan_l rfl rfl ?_
      intro w9 hb9 K hK
      have hB9 := hB8.trans (hb9.mono hB8.size)
      go_simp
      refine (logFrom_any b l k _ (hr.out.grow hB9) (by omega)).mono ?_
      rintro r wa ⟨va, rfl, hoa, hba⟩
      rw [hfk.out] at hoa
      refine hK _ _ hba ?_
      clear hK K
      have hBa := hB9.trans (hba.mono hB9.size)
      clear hb9 hba hB8 hB9
      repeat (refine plan_q rfl ?_; go_big_quiet_step (fail); refine wpQuiet_nil ?_)
      refine plan_l rfl rfl ?_
      intro wb hbb K hK
      have hBb := hBa.trans (hbb.mono hBa.size)
      go_simp
      refine (r12EqAll_any _ _ (l.drop k) (l.drop k) _ (hoa.rd.grow hbb) (hdr.out.grow hBb)).mono ?_
      rintro r wc ⟨rfl, hbc⟩
      rw [eqAll_refl]
      refine hK _ _ hbc ?_
      clear hK K
      have hBc := hBb.trans (hbc.mono hBb.size)
      clear hbb hbc hBa hBb
      repeat (refine plan_q rfl ?_; go_big_quiet_step (fail); refine wpQuiet_nil ?_)
      refine plan_nil fun wd hbd => ?_
      have hBd := hBc.trans (hbd.mono hBc.size)
      clear hbd hBc
      refine NoPanic.normal ?_
      go_wp2
      go_roundw
      case rel => exact ⟨k + 1, by omega, by go_num, hBd⟩
      case measure => simp [intOf]; omega
    · obtain rfl : k = l.length := by omega
      have hfm : Hid (fromE l (-1) = []) := Lib.hid (by simp [fromE])
      have hfp : Hid (fromE l ((l.length : Int) + 1) = []) := Lib.hid (by rw [fromE, if_neg (by omega)]; exact List.drop_eq_nil_of_le (by omega))
      go_wp2_with fail
      refine (logAt_no b l 0 _ (hr.out.grow hbel) (by omega)).mono ?_
      rintro r w3 ⟨rfl, hb3⟩
      have hB3 := hbel.trans (hb3.mono hbel.size)
      clear hb3 hbel
      have hB4 : ∀ o, Below w.heap.size w (w3.alloc o) := fun o => hB3.alloc hB3.size o
      replace hB4 := Lib.hid hB4
      go_wp2_with fail
      refine (logAt_no b l ((l.length : Int) + 1) _ (hr.out.grow (hB4.out _)) (by omega)).mono ?_
      rintro r w5 ⟨rfl, hb5⟩
      have hB5 := (hB4.out _).trans (hb5.mono (hB4.out _).size)
      clear hb5 hB4
      have hB6 : ∀ o, Below w.heap.size w (w5.alloc o) := fun o => hB5.alloc hB5.size o
      replace hB6 := Lib.hid hB6
      go_wp2_with fail
      refine (logFrom_any b l (-1) _ (hr.out.grow (hB6.out _)) (by omega)).mono ?_
      rintro r w7 ⟨v7, rfl, ho7, hb7⟩
      rw [hfm.out] at ho7
      obtain ⟨a7, c7, rfl⟩ := ho7.rd.len
      have hB7 := (hB6.out _).trans (hb7.mono (hB6.out _).size)
      clear hb7 ho7 hB6
      go_wp2_with fail
      refine (logFrom_any b l ((l.length : Int) + 1) _ (hr.out.grow hB7) (by omega)).mono ?_
      rintro r w8 ⟨v8, rfl, ho8, hb8⟩
      rw [hfp.out] at ho8
      obtain ⟨a8, c8, rfl⟩ := ho8.rd.len
      have hB8 := hB7.trans (hb8.mono hB7.size)
      clear hb8 ho8 hB7
      go_wp2
      go_ret
      exact ⟨ret_bool (by simp), hB8⟩
end Go.Proofs.Ytnkiifodcmfmiaa
