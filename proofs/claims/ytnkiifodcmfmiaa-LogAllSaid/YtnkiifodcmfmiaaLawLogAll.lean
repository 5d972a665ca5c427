/- Entries are added one by one, or put at a place: for all lists and operations; no condition. -/
import Derived.Test.YtnkiifodcmfmiaaBegun
import Derived.Test.YtnkiifodcmfmiaaPutA
import Derived.Test.YtnkiifodcmfmiaaRefC
import Derived.Test.YtnkiifodcmfmiaaOp13
namespace Go.Proofs.Ytnkiifodcmfmiaa.lawLogAll
open Go.ChangeShapes Go.WideShapes Go.ChangeAt Go.RowKit
set_option linter.unusedVariables false

/-- a log and the reference's list, apart from one another -/
def TwoL (w wr : World) (b : Nat) (va : Value) (L : List Ent) : Prop :=
  ∃ F : Nat → Prop, (∀ k, F k → w.heap.size ≤ k ∧ k < wr.heap.size) ∧ lgO wr F b L ∧ ownE wr 0 34 va L ∧ ∀ k, va.ownBlock = some k → ¬ F k
theorem TwoL.grow {w wr w' : World} {b : Nat} {va : Value} {L : List Ent} (h : TwoL w wr b va L) (hb : Below wr.heap.size wr w') : TwoL w w' b va L := by
  obtain ⟨F, h1, h2, h3, h4⟩ := h
  exact ⟨F, fun k hk => ⟨(h1 k hk).1, Nat.lt_of_lt_of_le (h1 k hk).2 hb.size⟩, h2.grow hb, ownE_grow h3 hb, h4⟩
theorem two_step {w wr w1 w2 : World} {b : Nat} {va va' : Value} {L' : List Ent} {F : Nat → Prop} (hF : ∀ k, F k → w.heap.size ≤ k ∧ k < wr.heap.size)
    (hva : ∀ k, va.ownBlock = some k → ¬ F k ∧ k < wr.heap.size) (hk : KeepNew wr va va') (ho : ownE w1 0 34 va' L') (hb1 : Below wr.heap.size wr w1)
    (hl : lgO w2 (Gr F w1 w2) b L') (hc : Chg F w1 w2) (hw : w.heap.size ≤ wr.heap.size) : TwoL w w2 b va' L' ∧ Below w.heap.size wr w2 := by
  have h1 := hb1.size
  have h2 := hc.size
  have hF2 : ∀ k, va'.ownBlock = some k → ¬ F k ∧ k < w1.heap.size := by
    intro k hvk
    rcases hk with rfl | hk
    · exact ⟨(hva k hvk).1, by have := (hva k hvk).2; omega⟩
    · exact ⟨fun f => by have := (hF k f).2; have := hk k hvk; omega, (ho.lt k hvk).2⟩
  refine ⟨⟨Gr F w1 w2, fun k hk => ?_, hl, ho.chg hc fun k hvk => (hF2 k hvk).1, fun k hvk hg => ?_⟩, ?_⟩
  · rcases hk with f | f
    · have := hF k f; exact ⟨this.1, by omega⟩
    · exact ⟨by omega, f.2⟩
  · rcases hg with f | f
    · exact (hF2 k hvk).1 f
    · have := (hF2 k hvk).2; omega
  · exact (hb1.mono hw).trans (hc.below (by omega) fun k hk => (hF k hk).1)

set_option maxHeartbeats 4000000 in
theorem walk (v : Value) (l : List Ent) (v2 : Value) (ops : List Op13) (w : World) (hr : rdE w v l) (hd : ∀ e ∈ l, e.data.size ≤ 9223372036854775807) (hr2 : rdS 3 cOp13 w v2 ops) (_ : True) :
    Calls Try.prog 3 #[v, v2] w fun e w' => e = .returned (.bool true) ∧ Below w.heap.size w w' := by
  replace hr := Lib.hid hr
  replace hd := Lib.hid hd
  obtain ⟨a2, c2, rfl, hm2, hM2, ha2⟩ := hr2
  unfold maxLen at hM2
  replace ha2 := Lib.hid ha2
  go_enter Try.func3, Try.ntmps3
  go_wp2_with fail
  refine (b13_any _).mono ?_
  rintro e w1 ⟨rfl, hb1⟩
  go_wp2_with fail
  refine (entries12_any _ l 10 _ (hr.out.grow hb1) hd.out (by omega) (by omega)).mono ?_
  rintro e w2 ⟨x1, rfl, ho1, hb2⟩
  have hB2 := hb1.trans (hb2.mono hb1.size)
  clear hb1 hb2 hd hr
  generalize mapCut l _ = A at ho1
  have R1 := Lib.hid ho1.rd
  clear ho1
  go_wp2_with fail
  refine (logNew_any _ A _ R1.out).mono ?_
  rintro r w3 ⟨b, rfl, hbb, hlg, hb3⟩
  have hB3 := hB2.trans (hb3.mono hB2.size)
  have R3 := Lib.hid (R1.out.grow hb3)
  have h60 := logE_len A
  go_wp2_with fail
  refine (r12Log_any _ A _ R3.out).mono ?_
  rintro r w4 ⟨va0, rfl, ho4, hb4⟩
  have hB4 := hB3.trans (hb4.mono hB3.size)
  have hT0 : TwoL w w4 b va0 (logE A) := ⟨News w2 w3, fun k hk => ⟨Nat.le_trans hB2.size hk.1, Nat.lt_of_lt_of_le hk.2 hb4.size⟩, hlg.grow hb4, ownE_base ho4 (Nat.zero_le _), fun k hk f => by
    have := (ho4.lt k hk).1; have := f.2; omega⟩
  replace hT0 := Lib.hid hT0
  clear hB2 hB3 hb3 hb4 hlg ho4 R1 R3 hbb
  generalize logE A = L0 at hT0 h60
  go_wp2
  go_loopw [7, 8] (fun va i wr => ∃ (k : Nat) (L : List Ent), k ≤ ops.length ∧ k ≤ 30 ∧ i = .int .i64 k ∧ L.length ≤ 60 ∧ TwoL w wr b va L ∧ Below w.heap.size w wr) (fun _ i _ => ops.length - (intOf i).toNat)
  case atStart => exact ⟨0, L0, Nat.zero_le _, Nat.zero_le _, rfl, h60, hT0.out, hB4⟩
  case round =>
    obtain ⟨k, L, hk, hk30, rfl, hL, hT, hbel⟩ := hrel
    have hsz := hbel.size
    clear hT0 h60 hB4
    by_cases hlt : k < ops.length
    · by_cases hlt30 : k < 30
      · obtain ⟨bl, off, rfl, hc⟩ := ha2.out (by omega)
        have hci := cOp13.grow _ _ _ _ _ (hc k hlt) hbel
        clear hc
        generalize ops[k] = o at hci
        obtain ⟨kd, at_, es⟩ := o
        obtain ⟨c0, c1, ⟨ve, c2, hre⟩, hds, hat, hkd⟩ := hci
        dsimp only at c0 c1 hre hds hat hkd
        obtain ⟨hat0, hat1⟩ := hat
        clear hkd
        obtain ⟨ae, ce, rfl⟩ := hre.len
        replace hre := Lib.hid hre
        replace hds := Lib.hid hds
        replace hT := Lib.hid hT
        replace hbel := Lib.hid hbel
        go_wp2_with fail
        obtain ⟨w5, hw5⟩ : ∃ W, W = wr.alloc (.cells #[.int .i64 kd, .int .i64 at_, .slice ae es.length ce] 30) := ⟨_, rfl⟩
        have hb5 : Below wr.heap.size wr w5 := hw5 ▸ (Below.refl _ _).alloc (Nat.le_refl _) _
        have x0 : w5.cell? ⟨wr.heap.size, 0, none⟩ = some (.int .i64 kd) := by rw [hw5]; simp
        have x1 : w5.cell? ⟨wr.heap.size, 1, none⟩ = some (.int .i64 at_) := by rw [hw5]; simp
        rw [← hw5]
        clear hw5 c0 c1 c2
        obtain ⟨nb, hnb⟩ : ∃ n, n = wr.heap.size := ⟨_, rfl⟩
        rw [← hnb] at x0 x1 ⊢
        replace hnb := Lib.hid hnb
        have x0l := cell_lt x0
        refine (entries12_any _ es 6 _ (hre.out.grow hb5) hds.out (by omega) (by omega)).mono ?_
        rintro r w6 ⟨ve, rfl, hoe, hb6⟩
        have y0 : w6.cell? ⟨nb, 0, none⟩ = some (.int .i64 kd) := by rw [← x0]; exact hb6.cell x0l
        have y1 : w6.cell? ⟨nb, 1, none⟩ = some (.int .i64 at_) := by rw [← x1]; exact hb6.cell x0l
        have hT6 := Lib.hid ((hT.out.grow hb5).grow hb6)
        have hbel6 := Lib.hid ((hbel.out.trans (hb5.mono hsz)).trans (hb6.mono (Nat.le_trans hsz hb5.size)))
        generalize mapCut es _ = E at hoe
        have RE := Lib.hid hoe.rd
        clear hb5 hb6 hT hbel hre hds x0 x1 x0l hoe
        obtain ⟨aE, cE, rfl, hmE, hME, haE⟩ := RE.out
        unfold maxLen at hME
        replace haE := Lib.hid haE
        by_cases hkd : kd = 0
        · subst hkd
          by_cases hE0 : E.length = 0
          · go_wp2_with fail
            go_roundw
            case rel => exact ⟨k + 1, L, by omega, by omega, by go_num, hL, hT6.out, hbel6.out⟩
            case measure => simp [intOf]; omega
          · obtain ⟨bE, oE, rfl, hcE⟩ := haE.out (by omega)
            have hc0 := hcE 0 (by omega)
            rw [Nat.zero_mul, Nat.add_zero] at hc0
            clear hcE
            generalize E[0] = e at hc0
            obtain ⟨F, hF, hlg, hov, hdj⟩ := hT6.out
            replace hF := Lib.hid hF
            replace hdj := Lib.hid hdj
            have hlg := Lib.hid hlg
            have hov := Lib.hid hov
            have hz6 : 0 < E.length := by omega
            obtain ⟨e0, e1, e2, e3, e4, e5, e6⟩ := hc0
            go_wp2_with fail
            refine (r12Add_new _ L e 0 _ hov.out hL (Nat.zero_le _)).mono ?_
            rintro r w7 ⟨va', rfl, ho7, hk7, hb7⟩
            have hlg7 := Lib.hid (hlg.out.grow hb7)
            have hva : Hid (∀ k, u7.ownBlock = some k → ¬ F k ∧ k < w6.heap.size) := Lib.hid fun k hk => ⟨hdj.out k hk, (hov.out.lt k hk).2⟩
            replace ho7 := Lib.hid ho7
            replace hk7 := Lib.hid hk7
            have z0 := hb7.cell (p := ⟨bE, oE, none⟩) (cell_lt e0)
            have z1 := hb7.cell (p := ⟨bE, oE + 1, none⟩) (cell_lt e0)
            have z2 := hb7.cell (p := ⟨bE, oE + 2, none⟩) (cell_lt e0)
            have z3 := hb7.cell (p := ⟨bE, oE + 3, none⟩) (cell_lt e0)
            have z4 := hb7.cell (p := ⟨bE, oE + 4, none⟩) (cell_lt e0)
            have z5 := hb7.cell (p := ⟨bE, oE + 5, none⟩) (cell_lt e0)
            have z6 := hb7.cell (p := ⟨bE, oE + 6, none⟩) (cell_lt e0)
            rw [e0] at z0
            rw [e1] at z1
            rw [e2] at z2
            rw [e3] at z3
            rw [e4] at z4
            rw [e5] at z5
            rw [e6] at z6
            clear e0 e1 e2 e3 e4 e5 e6
            replace hb7 := Lib.hid hb7
            go_wp2_with fail
            refine (logAdd_any b L e F _ hlg7.out hL).mono ?_
            rintro r w8 ⟨rfl, hlg8, hc8⟩
            obtain ⟨hT8, hb8⟩ := two_step hF.out hva.out hk7.out ho7.out hb7.out hlg8 hc8 hbel6.out.size
            have hbel8 := Lib.hid (hbel6.out.trans hb8)
            have hL8 := addE_len L e hL
            clear hlg8 hc8 hb8 z0 z1 z2 z3 z4 z5 z6 hlg hov hlg7 ho7 hk7 hb7 hva
            generalize addE L e = L' at hT8 hL8
            obtain ⟨F8, hF8, hl8, hv8, hd8⟩ := id hT8
            have hl8 := Lib.hid hl8.rd
            have hv8 := Lib.hid hv8.rd
            replace hT8 := Lib.hid hT8
            clear hF8 hd8
            have hneq : ∀ x : Bool, (x != x) = false := fun x => by cases x <;> rfl
            generalize okAdd L e = q
            cases q
            all_goals
              go_wp2_with fail
              refine (same13_yes b _ L' _ hl8.out hv8.out hL8).mono ?_
              rintro r w9 ⟨rfl, hb9⟩
              have hT9 := hT8.out.grow hb9
              have hbel9 := hbel8.out.trans (hb9.mono hbel8.out.size)
              go_wp2_with fail
              go_roundw
              case rel => exact ⟨k + 1, L', by omega, by omega, by go_num, hL8, hT9, hbel9⟩
              case measure => simp [intOf]; omega
        · obtain ⟨F, hF, hlg, hov, hdj⟩ := hT6.out
          replace hF := Lib.hid hF
          replace hdj := Lib.hid hdj
          have hlg := Lib.hid hlg
          have hov := Lib.hid hov
          go_wp2_with fail
          refine (r12Put_new _ _ L E at_ 0 _ hov.out RE.out hL (Nat.zero_le _) hat0 hat1).mono ?_
          rintro r w7 ⟨va', rfl, ho7, hk7, hb7⟩
          have hlg7 := Lib.hid (hlg.out.grow hb7)
          have RE7 := Lib.hid (RE.out.grow hb7)
          have hva : Hid (∀ k, u7.ownBlock = some k → ¬ F k ∧ k < w6.heap.size) := Lib.hid fun k hk => ⟨hdj.out k hk, (hov.out.lt k hk).2⟩
          have z1 := hb7.cell (p := ⟨nb, 1, none⟩) (cell_lt y1)
          rw [y1] at z1
          clear y0 y1
          replace ho7 := Lib.hid ho7
          replace hk7 := Lib.hid hk7
          replace hb7 := Lib.hid hb7
          go_wp2_with fail
          refine (logPut_any b _ L E at_ F _ hlg7.out RE7.out hL).mono ?_
          rintro r w8 ⟨rfl, hlg8, hc8⟩
          obtain ⟨hT8, hb8⟩ := two_step hF.out hva.out hk7.out ho7.out hb7.out hlg8 hc8 hbel6.out.size
          have hbel8 := Lib.hid (hbel6.out.trans hb8)
          have hL8 : ((putE L at_ E).getD L).length ≤ 60 := by
            cases hp : putE L at_ E with
            | none => exact hL
            | some m => exact putE_len hL hp
          clear hlg8 hc8 hb8 z1 hlg hov hlg7 ho7 hk7 hb7 hva RE RE7
          generalize (putE L at_ E).getD L = L' at hT8 hL8
          obtain ⟨F8, hF8, hl8, hv8, hd8⟩ := id hT8
          have hl8 := Lib.hid hl8.rd
          have hv8 := Lib.hid hv8.rd
          replace hT8 := Lib.hid hT8
          clear hF8 hd8
          generalize (putE L at_ E).isSome = q
          cases q
          all_goals
            go_wp2_with fail
            refine (same13_yes b _ L' _ hl8.out hv8.out hL8).mono ?_
            rintro r w9 ⟨rfl, hb9⟩
            have hT9 := hT8.out.grow hb9
            have hbel9 := hbel8.out.trans (hb9.mono hbel8.out.size)
            go_wp2_with fail
            go_roundw
            case rel => exact ⟨k + 1, L', by omega, by omega, by go_num, hL8, hT9, hbel9⟩
            case measure => simp [intOf]; omega
      · obtain ⟨F8, hF8, hl8, hv8, hd8⟩ := hT
        have hl8 := Lib.hid hl8.rd
        have hv8 := Lib.hid hv8.rd
        clear hF8 hd8
        go_wp2_with fail
        refine (same13_yes b _ L _ hl8.out hv8.out hL).mono ?_
        rintro r w9 ⟨rfl, hb9⟩
        have hbel9 := hbel.trans (hb9.mono hsz)
        go_wp2
        go_ret
        exact ⟨rfl, hbel9⟩
    · obtain ⟨F8, hF8, hl8, hv8, hd8⟩ := hT
      have hl8 := Lib.hid hl8.rd
      have hv8 := Lib.hid hv8.rd
      clear hF8 hd8
      go_wp2_with fail
      refine (same13_yes b _ L _ hl8.out hv8.out hL).mono ?_
      rintro r w9 ⟨rfl, hb9⟩
      have hbel9 := hbel.trans (hb9.mono hsz)
      go_wp2
      go_ret
      exact ⟨rfl, hbel9⟩

/-! the row's step, written out by law.py -/
set_option maxRecDepth 100000 in
theorem lifted (os : Os) (started : os.Started) (H : Type) (enc : TypeId × Value → H) :
    ReturnsInHanded {} Try.checked os 3 .any (Rows.logAllSpec.pre6 enc Try.prog Try.f3 Rows.logAllRow.domain false) (Rows.logAllSpec.post enc Try.prog Try.f3 false true false false) := by
  refine returnsInHanded_of_change (C := Try.checked) own started (by kernel_rfl) Try.func3
    (ChangeSpec.witness6 (enc := enc) (C := Try.checked) false ⟨#[], #[.slice none 0 0, .slice none 0 0], []⟩ 8 (by kernel_rfl) (by kernel_rfl) (by kernel_rfl) (by kernel_rfl)) ?_
  intro W base args ds gs before hval0 hW hcnd _
  have hval : ∀ (j : Nat) t v, Try.f3.params[j]? = some t → args[j]? = some v → Value.okWide Try.prog W .any base t v := hval0
  have hW' := hW
  obtain ⟨p, q, hA0, hV, rfl, hfz, hnd⟩ := hW
  have hA : DataW.TrodAll enc Try.prog W 0 (fun _ => true) true Try.f3.params.toList args.toList ds p := hA0
  rw [Try.params3] at hA hval
  obtain ⟨v0, vs0, d0, ds0, p0, q0, hargs, rfl, rfl, h0, r0⟩ := trodAll_cons hA
  obtain ⟨v1, vs1, d1, ds1, p1, q1, rfl, rfl, rfl, h1, r1⟩ := trodAll_cons r0
  obtain ⟨rfl, rfl, rfl⟩ := trodAll_nil r1
  obtain rfl : args = #[v0, v1] := by cases args; simp_all
  obtain ⟨rfl, rfl⟩ := trodVars_none hV
  have k0 := h0
  have lt0 : ∀ x ∈ p0, x.block < W.heap.size := by obtain ⟨m, hm⟩ := k0; exact DataW.trod_lt m _ _ _ hm
  have k1 := h1
  have lt1 : ∀ x ∈ p1, x.block < W.heap.size := by obtain ⟨m, hm⟩ := k1; exact DataW.trod_lt m _ _ _ hm
  obtain ⟨l0, w0, b0⟩ := slentry_open (hval 0 22 v0 rfl rfl) h0
  obtain ⟨l1, w1, b1⟩ := slop13_open (hval 1 23 v1 rfl rfl) h1
  clear hA0 hval0
  simp only [List.append_nil] at hW'
  refine (walk v0 l0 v1 l1 W w0 b0 w1 b1).mono fun e W' ⟨he, bel⟩ => ?_
  subst he
  exact ⟨_, rfl, _, _, _, [], _, [], hW', trodAll_mk1 (shut_bool Try.underlying4 _), (trodAll_cons_mk (Below.trod laidOut (by kernel_rfl) (of_decide_eq_true (by kernel_rfl)) k0 bel lt0) (trodAll_cons_mk (Below.trod laidOut (by kernel_rfl) (of_decide_eq_true (by kernel_rfl)) k1 bel lt1) trodAll_mk0)), rfl, bel.frame _, fun h => by cases h⟩

theorem over : Rows.logAllRow.holds Try.pinned (OpenSpec.ofChange Rows.logAllSpec) :=
  OpenClaim.holds_of_wide 3 Try.f3 rfl rfl rfl rfl rfl rfl rfl ⟨rfl, rfl, rfl, rfl, rfl⟩ rfl rfl rfl rfl rfl (by kernel_rfl) Try.func3 (by kernel_rfl)
    (of_decide_eq_true (by kernel_rfl)) (by unfold Func.isWrapper; first | (rw [if_pos (by decide +kernel)]; kernel_rfl) | (rw [if_neg (by decide +kernel)]; exact ⟨rfl, rfl⟩))
    (fun os started H enc _ => lifted os started H enc)

theorem proved : Rows.LogAllSaid := over
end Go.Proofs.Ytnkiifodcmfmiaa.lawLogAll
