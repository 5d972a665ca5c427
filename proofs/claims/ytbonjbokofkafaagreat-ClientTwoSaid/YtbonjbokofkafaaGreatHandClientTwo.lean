/- Two clients of one process are told each for itself. -/
import Derived.Test.YtbonjbokofkafaaGreatPkW
import Derived.Test.YtbonjbokofkafaaGreatPkV
import Derived.Test.YtbonjbokofkafaaGreatPkK
import Derived.Test.YtbonjbokofkafaaGreatPkA
namespace Go.Proofs.YtbonjbokofkafaaGreat.lawClientTwo
open Go.ChangeShapes Go.WideShapes Go.ChangeAt Go.RowKit
set_option linter.unusedVariables false

/-- a round: cast, a tick, the other one's answers -/
def turnT (s : Nd) : Nd := stepA (s.cast 0 1 ⟨#[120]⟩).1
theorem turnT_td (s : Nd) : s.td.length ≤ (turnT s).td.length := ((TdLe.cast s 0 1 ⟨#[120]⟩).trans ((TdLe.tick _).trans (TdLe.acks _ _))).len
set_option maxRecDepth 100000 in
set_option maxHeartbeats 32000000 in
theorem walk (mm : Int) (v : Value) (l : List Int) (w : World) (hmm : w.cell? ⟨0, 0, none⟩ = some (.int .i64 mm)) (hr : rdI w v l) (hl : ∀ x ∈ l, -9223372036854775808 ≤ x ∧ x ≤ 9223372036854775807) :
    Calls Tryz.prog 8 #[v] w fun r w' => r = .returned (.bool true) ∧ Below w.heap.size w w' := by
  have hB := Lib.hid (b26_any w ⟨mm, hmm⟩)
  have m0 := Lib.hid (⟨mm, hmm⟩ : ∃ m, w.cell? ⟨0, 0, none⟩ = some (.int .i64 m))
  clear hmm
  obtain ⟨a, cap, rfl, hcap, hM, ha⟩ := hr
  unfold maxLen at hM
  replace ha := Lib.hid ha
  replace hl := Lib.hid hl
  go_enter Tryz.func8, Tryz.ntmps8
  go_wp2_with fail
  refine hB.out.mono ?_
  rintro r w1 ⟨rfl, hb1⟩
  obtain ⟨m, hm⟩ := m0.out
  have hT := Lib.hid (trio_any w1 ⟨m, by rw [hb1.cell (cell_lt hm)]; exact hm⟩)
  replace hb1 := Lib.hid hb1
  clear hB hm
  go_wp2_with fail
  refine hT.out.mono ?_
  rintro r w2 ⟨own2, b, dk, cb, rfl, g2, x2⟩
  have hcl := Lib.hid (gxClient g2)
  replace x2 := Lib.hid x2
  clear hT g2
  go_wp2_with fail
  refine hcl.out.mono ?_
  rintro r w3 ⟨own3, db, rfl, g3, y3, k3, l3⟩
  have x3 := Lib.hid (x2.out.keep k3)
  have hdc : db ≠ cb := by have := at_lt x2.out.o; omega
  replace g3 := Lib.hid g3
  replace y3 := Lib.hid y3
  clear hcl k3 l3
  go_wp2
  go_loopw [7, 8, 9] (fun x7 x8 i wr => ∃ (k na nb : Nat) (S : Nd) (own : Nat → Nat) (lost : Int), k ≤ l.length ∧ k ≤ 12 ∧ x7 = .int .i64 na ∧ x8 = .int .i64 nb ∧ i = .int .i64 k ∧ GX own w1 wr b dk (40 + 10 * k) S ∧ CX own wr cb b na lost ∧ CX own wr db b nb 0 ∧ na ≤ S.td.length ∧ nb ≤ S.td.length ∧ 0 ≤ lost ∧ lost ≤ k) (fun _ _ i _ => 12 - (intOf i).toNat)
  case atStart => exact ⟨0, 0, 0, B12, own3, 0, Nat.zero_le _, Nat.zero_le _, rfl, rfl, rfl, g3.out, x3.out, y3.out, Nat.zero_le _, Nat.zero_le _, Int.le_refl _, Int.le_refl _⟩
  case round =>
    obtain ⟨k, na, nb, S, own, lost, hk, hk12, rfl, rfl, rfl, gk, xk, yk, hna, hnb, hl0, hl1⟩ := hrel
    replace g3 := Lib.hid g3
    clear g3 x3 y3 x2
    by_cases hin : k < l.length ∧ k < 12
    · obtain ⟨hlt, hlt12⟩ := hin
      obtain ⟨g, off, rfl, hc⟩ := ha.out (by omega)
      have hlow := hb1.out.trans (gk.px.bel.mono hb1.out.size)
      have hck0 := cell_lt (hc k hlt)
      have hck := hc k hlt
      clear hc
      generalize l[k] = x at hck
      have hlen : decide ((k : Int) < (l.length : Int)) = true := decide_eq_true (by omega)
      have h12 : decide ((k : Int) < (12 : Int)) = true := decide_eq_true (by omega)
      have hC := Lib.hid (cxCast gk xk hl0 (by omega) 0 1 ⟨#[120]⟩)
      replace yk := Lib.hid yk
      replace hck := Lib.hid hck
      replace hlow := Lib.hid hlow
      clear gk xk
      go_wp2_with fail
      refine hC.out.mono ?_
      rintro r w4 ⟨own4, rfl, g4, x4, k4⟩
      have y4 := Lib.hid (yk.out.keepC k4 hdc)
      obtain ⟨lo2, hlo2⟩ : ∃ z, z = if (S.cast 0 1 ⟨#[120]⟩).2 = 0 then lost else lost + 1 := ⟨_, rfl⟩
      have hlo3 : 0 ≤ lo2 ∧ lo2 ≤ lost + 1 := by rw [hlo2]; split <;> omega
      rw [← hlo2] at x4
      replace x4 := Lib.hid x4
      replace hlo2 := Lib.hid hlo2
      have hcall := Lib.hid (gxTick g4 (by omega))
      have hout := Lib.hid (g4.fu.ok.tickM g4.fu.mn (by omega))
      clear hC g4 k4 hlen h12
      generalize (S.cast 0 1 ⟨#[120]⟩).2 = er
      go_wp2_with fail
      refine hcall.out.mono ?_
      rintro r w5 ⟨v5, own5, o5, rfl, g5, k5, q5, e5⟩
      have x5 := Lib.hid (x4.out.keep k5)
      have y5 := Lib.hid (y4.out.keep k5)
      have hA := Lib.hid (acks_any g5 v5 o5 _ q5 e5 (nums_of hout.out.2) (by have := hout.out.1; omega) (by omega))
      clear hcall k5 q5 e5 g5
      go_wp2_with fail
      refine hA.out.mono ?_
      rintro r w6 ⟨rfl, own6, g6, k6⟩
      have g6 := show GX own6 w1 w6 b dk (40 + 10 * (k + 1)) (turnT S) from g6.up (by have := hout.out.1; omega)
      have x6 := Lib.hid (x5.out.keep k6)
      have y6 := Lib.hid (y5.out.keep k6)
      have htd := turnT_td S
      generalize turnT S = S2 at g6 htd
      have hck6 : w6.cell? ⟨g, off + k, none⟩ = some (.int .i64 x) := by rw [(hb1.out.trans (g6.px.bel.mono hb1.out.size)).cell hck0]; exact hck.out
      have lg6 : g < w6.heap.size := by have := (hb1.out.trans (g6.px.bel.mono hb1.out.size)).size; have : g < w.heap.size := hck0; omega
      replace g6 := Lib.hid g6
      obtain ⟨T, hT⟩ : ∃ T, T = S2.td.length := ⟨_, rfl⟩
      have hTB : T ≤ 20000 := by have := g6.out.fu.ok.tdl; omega
      have hna2 : na ≤ T := by omega
      have hnb2 : nb ≤ T := by omega
      clear hA k6 hck
      replace hT := Lib.hid hT
      obtain ⟨q1, hq1⟩ : ∃ z, z = bits .and .i64 x 1 := ⟨_, rfl⟩
      obtain ⟨q2, hq2⟩ : ∃ z, z = bits .and .i64 x 2 := ⟨_, rfl⟩
      cases h1 : (bits .and .i64 x 1 != 0)
      · cases h2 : (bits .and .i64 x 2 != 0)
        · go_wp2
          go_roundw
          case rel => exact ⟨k + 1, na, nb, S2, _, lo2, by omega, by omega, rfl, rfl, by go_num, g6.out, x6.out, y6.out, by rw [← hT.out]; omega, by rw [← hT.out]; omega, hlo3.1, by omega⟩
          case measure => simp [intOf]; omega
        · have hP := cxPoll g6.out y6.out (by omega) (by rw [← hT.out]; exact hnb2)
          rw [← hT.out] at hP
          replace hP := Lib.hid hP
          obtain ⟨n2, hn2⟩ : ∃ z, z = T - nb := ⟨_, rfl⟩
          have hE2 := Lib.hid (show (nb : Int) + (n2 : Int) = (T : Int) from by omega)
          have hnB2 : n2 ≤ 20000 := by omega
          replace hn2 := Lib.hid hn2
          go_wp2_with fail
          refine hP.out.mono ?_
          rintro r w8 ⟨v8, rfl, g8, y8, k8, r8, f8⟩
          obtain ⟨a8, c8, rfl⟩ := r8.len
          rw [List.length_drop, ← hT.out, ← hn2.out]
          have x8 := Lib.hid (x6.out.keepC k8 (Ne.symm hdc))
          replace g8 := Lib.hid g8
          replace y8 := Lib.hid y8
          clear hP k8 r8 f8
          go_wp2
          go_roundw
          case rel => exact ⟨k + 1, na, T, S2, _, lo2, by omega, by omega, rfl, by rw [← hE2.out], by go_num, g8.out, x8.out, y8.out, by rw [← hT.out]; omega, by rw [← hT.out]; omega, hlo3.1, by omega⟩
          case measure => simp [intOf]; omega
      · cases h2 : (bits .and .i64 x 2 != 0)
        · have hP := cxPoll g6.out x6.out (by omega) (by rw [← hT.out]; exact hna2)
          rw [← hT.out] at hP
          replace hP := Lib.hid hP
          obtain ⟨n1, hn1⟩ : ∃ z, z = T - na := ⟨_, rfl⟩
          have hE1 := Lib.hid (show (na : Int) + (n1 : Int) = (T : Int) from by omega)
          have hnB1 : n1 ≤ 20000 := by omega
          replace hn1 := Lib.hid hn1
          go_wp2_with fail
          refine hP.out.mono ?_
          rintro r w7 ⟨v7, rfl, g7, x7, k7, r7, f7⟩
          obtain ⟨a7, c7, rfl⟩ := r7.len
          rw [List.length_drop, ← hT.out, ← hn1.out]
          have y7 := Lib.hid (y6.out.keepC k7 hdc)
          have hck7 : w7.cell? ⟨g, off + k, none⟩ = some (.int .i64 x) := by rw [← hck6]; exact World.cell?_of_block (w := w6) (a := ⟨g, off + k, none⟩) ((k7.keep g lg6 (by rw [g6.out.px.low g (Nat.lt_of_lt_of_le hck0 hb1.out.size)]; exact jk0 (Nat.le_refl _))).2 (fun e => by have := x6.out.ow; rw [← e, g6.out.px.low g (Nat.lt_of_lt_of_le hck0 hb1.out.size)] at this; omega))
          have lg7 : g < w7.heap.size := Nat.lt_of_lt_of_le lg6 k7.size
          replace g7 := Lib.hid g7
          replace x7 := Lib.hid x7
          clear hP k7 r7 f7 hck6
          go_wp2
          go_roundw
          case rel => exact ⟨k + 1, T, nb, S2, _, lo2, by omega, by omega, by rw [← hE1.out], rfl, by go_num, g7.out, x7.out, y7.out, by rw [← hT.out]; omega, by rw [← hT.out]; omega, hlo3.1, by omega⟩
          case measure => simp [intOf]; omega
        · have hP := cxPoll g6.out x6.out (by omega) (by rw [← hT.out]; exact hna2)
          rw [← hT.out] at hP
          replace hP := Lib.hid hP
          obtain ⟨n1, hn1⟩ : ∃ z, z = T - na := ⟨_, rfl⟩
          have hE1 := Lib.hid (show (na : Int) + (n1 : Int) = (T : Int) from by omega)
          have hnB1 : n1 ≤ 20000 := by omega
          replace hn1 := Lib.hid hn1
          go_wp2_with fail
          refine hP.out.mono ?_
          rintro r w7 ⟨v7, rfl, g7, x7, k7, r7, f7⟩
          obtain ⟨a7, c7, rfl⟩ := r7.len
          rw [List.length_drop, ← hT.out, ← hn1.out]
          have y7 := Lib.hid (y6.out.keepC k7 hdc)
          have hck7 : w7.cell? ⟨g, off + k, none⟩ = some (.int .i64 x) := by rw [← hck6]; exact World.cell?_of_block (w := w6) (a := ⟨g, off + k, none⟩) ((k7.keep g lg6 (by rw [g6.out.px.low g (Nat.lt_of_lt_of_le hck0 hb1.out.size)]; exact jk0 (Nat.le_refl _))).2 (fun e => by have := x6.out.ow; rw [← e, g6.out.px.low g (Nat.lt_of_lt_of_le hck0 hb1.out.size)] at this; omega))
          have lg7 : g < w7.heap.size := Nat.lt_of_lt_of_le lg6 k7.size
          replace g7 := Lib.hid g7
          replace x7 := Lib.hid x7
          clear hP k7 r7 f7 hck6
          have hP := cxPoll g7.out y7.out (by omega) (by rw [← hT.out]; exact hnb2)
          rw [← hT.out] at hP
          replace hP := Lib.hid hP
          obtain ⟨n2, hn2⟩ : ∃ z, z = T - nb := ⟨_, rfl⟩
          have hE2 := Lib.hid (show (nb : Int) + (n2 : Int) = (T : Int) from by omega)
          have hnB2 : n2 ≤ 20000 := by omega
          replace hn2 := Lib.hid hn2
          go_wp2_with fail
          refine hP.out.mono ?_
          rintro r w8 ⟨v8, rfl, g8, y8, k8, r8, f8⟩
          obtain ⟨a8, c8, rfl⟩ := r8.len
          rw [List.length_drop, ← hT.out, ← hn2.out]
          have x8 := Lib.hid (x7.out.keepC k8 (Ne.symm hdc))
          replace g8 := Lib.hid g8
          replace y8 := Lib.hid y8
          clear hP k8 r8 f8
          go_wp2
          go_roundw
          case rel => exact ⟨k + 1, T, T, S2, _, lo2, by omega, by omega, by rw [← hE1.out], by rw [← hE2.out], by go_num, g8.out, x8.out, y8.out, by rw [← hT.out]; omega, by rw [← hT.out]; omega, hlo3.1, by omega⟩
          case measure => simp [intOf]; omega
    · have hb : (decide ((k : Int) < (l.length : Int)) && decide ((k : Int) < (12 : Int))) = false := by
        rw [Bool.and_eq_false_iff, decide_eq_false_iff_not, decide_eq_false_iff_not]; omega
      have hP := Lib.hid (cxPoll gk xk (by omega) hna)
      replace yk := Lib.hid yk
      obtain ⟨T, hT⟩ : ∃ T, T = S.td.length := ⟨_, rfl⟩
      have hTB : T ≤ 20000 := by have := gk.fu.ok.tdl; omega
      rw [← hT] at hna hnb hP
      replace hT := Lib.hid hT
      obtain ⟨n1, hn1⟩ : ∃ z, z = T - na := ⟨_, rfl⟩
      obtain ⟨n2, hn2⟩ : ∃ z, z = T - nb := ⟨_, rfl⟩
      have hE1 := Lib.hid (show (na : Int) + (n1 : Int) = (T : Int) from by omega)
      have hE2 := Lib.hid (show (nb : Int) + (n2 : Int) = (T : Int) from by omega)
      have hnB1 : n1 ≤ 20000 := by omega
      have hnB2 : n2 ≤ 20000 := by omega
      replace hn1 := Lib.hid hn1
      replace hn2 := Lib.hid hn2
      clear gk xk
      by_cases hlt : k < l.length
      · have h1 : decide ((k : Int) < (l.length : Int)) = true := decide_eq_true (by omega)
        have h2 : decide ((k : Int) < (12 : Int)) = false := decide_eq_false (by omega)
        go_wp2_with fail
        refine hP.out.mono ?_
        rintro r w4 ⟨v4, rfl, g4, x4, k4, r4, f4⟩
        obtain ⟨a4, c4, rfl⟩ := r4.len
        rw [List.length_drop, ← hT.out, ← hn1.out]
        have y4 := yk.out.keepC k4 hdc
        have hP2 := cxPoll g4 y4 (by omega) (by rw [← hT.out]; exact hnb)
        rw [← hT.out] at hP2
        replace hP2 := Lib.hid hP2
        clear hP g4 x4 k4 r4 f4 y4
        go_wp2_with fail
        refine hP2.out.mono ?_
        rintro r w5 ⟨v5, rfl, g5, y5, k5, r5, f5⟩
        obtain ⟨a5, c5, rfl⟩ := r5.len
        rw [List.length_drop, ← hT.out, ← hn2.out]
        have hTo := Lib.hid (gxTold g5 (by omega))
        replace y5 := Lib.hid y5
        clear hP2 k5 r5 f5
        replace g5 := Lib.hid g5
        go_wp2_with fail
        refine hTo.out.mono ?_
        rintro r w6 ⟨v6, rfl, ho6, hb6⟩
        obtain ⟨a6, c6, rfl⟩ := (ho6.rd tdShp).len
        rw [← hT.out]
        have hL := Lib.hid (cxLost (y5.out.grow hb6))
        have hB6 := Lib.hid (hb1.out.trans ((g5.out.grow hb6).px.bel.mono hb1.out.size))
        clear hTo ho6 hb6
        have e1 : ((na : Int) + (n1 : Int) == (T : Int)) = true := by rw [hE1.out]; simp
        have e2 : ((nb : Int) + (n2 : Int) == (na : Int) + (n1 : Int)) = true := by rw [hE1.out, hE2.out]; simp
        go_wp2_with fail
        refine hL.out.mono ?_
        rintro r w7 ⟨rfl, hb7⟩
        have hB7 := Lib.hid (hB6.out.trans (hb7.mono hB6.out.size))
        clear hL hb7
        go_wp2
        go_ret
        exact ⟨rfl, hB7.out⟩
      · have h1 : decide ((k : Int) < (l.length : Int)) = false := decide_eq_false (by omega)
        go_wp2_with fail
        refine hP.out.mono ?_
        rintro r w4 ⟨v4, rfl, g4, x4, k4, r4, f4⟩
        obtain ⟨a4, c4, rfl⟩ := r4.len
        rw [List.length_drop, ← hT.out, ← hn1.out]
        have y4 := yk.out.keepC k4 hdc
        have hP2 := cxPoll g4 y4 (by omega) (by rw [← hT.out]; exact hnb)
        rw [← hT.out] at hP2
        replace hP2 := Lib.hid hP2
        clear hP g4 x4 k4 r4 f4 y4
        go_wp2_with fail
        refine hP2.out.mono ?_
        rintro r w5 ⟨v5, rfl, g5, y5, k5, r5, f5⟩
        obtain ⟨a5, c5, rfl⟩ := r5.len
        rw [List.length_drop, ← hT.out, ← hn2.out]
        have hTo := Lib.hid (gxTold g5 (by omega))
        replace y5 := Lib.hid y5
        clear hP2 k5 r5 f5
        replace g5 := Lib.hid g5
        go_wp2_with fail
        refine hTo.out.mono ?_
        rintro r w6 ⟨v6, rfl, ho6, hb6⟩
        obtain ⟨a6, c6, rfl⟩ := (ho6.rd tdShp).len
        rw [← hT.out]
        have hL := Lib.hid (cxLost (y5.out.grow hb6))
        have hB6 := Lib.hid (hb1.out.trans ((g5.out.grow hb6).px.bel.mono hb1.out.size))
        clear hTo ho6 hb6
        have e1 : ((na : Int) + (n1 : Int) == (T : Int)) = true := by rw [hE1.out]; simp
        have e2 : ((nb : Int) + (n2 : Int) == (na : Int) + (n1 : Int)) = true := by rw [hE1.out, hE2.out]; simp
        go_wp2_with fail
        refine hL.out.mono ?_
        rintro r w7 ⟨rfl, hb7⟩
        have hB7 := Lib.hid (hB6.out.trans (hb7.mono hB6.out.size))
        clear hL hb7
        go_wp2
        go_ret
        exact ⟨rfl, hB7.out⟩

/-! the row's step, written out by law.py -/
set_option maxRecDepth 100000 in
theorem lifted (os : Os) (started : os.Started) (H : Type) (enc : TypeId × Value → H) :
    ReturnsInHanded {} Tryz.checked os 8 .any (Rows.clientTwoSpec.pre6 enc Tryz.prog Tryz.f8 Rows.clientTwoRow.domain false) (Rows.clientTwoSpec.post enc Tryz.prog Tryz.f8 false true false false) := by
  refine returnsInHanded_of_change_shaped (C := Tryz.checked) own started (by kernel_rfl) Tryz.func8
    (ChangeSpec.witness6 (enc := enc) (C := Tryz.checked) false ⟨#[], #[.slice none 0 0], []⟩ 8 (by kernel_rfl) (by kernel_rfl) (by kernel_rfl) (by kernel_rfl)) ?_
  intro W base args ds gs before hval0 hW hcnd _ hsh _
  have hval : ∀ (j : Nat) t v, Tryz.f8.params[j]? = some t → args[j]? = some v → Value.okWide Tryz.prog W .any base t v := hval0
  have hW' := hW
  obtain ⟨p, q, hA0, hV, rfl, hfz, hnd⟩ := hW
  have hA : DataW.TrodAll enc Tryz.prog W 0 (fun _ => true) true Tryz.f8.params.toList args.toList ds p := hA0
  rw [Tryz.params8] at hA hval
  obtain ⟨v0, vs0, d0, ds0, p0, q0, hargs, rfl, rfl, h0, r0⟩ := trodAll_cons hA
  obtain ⟨rfl, rfl, rfl⟩ := trodAll_nil r0
  obtain rfl : args = #[v0] := by cases args; simp_all
  obtain ⟨rfl, rfl⟩ := trodVars_none hV
  have k0 := h0
  have lt0 : ∀ x ∈ p0, x.block < W.heap.size := by obtain ⟨m, hm⟩ := k0; exact DataW.trod_lt m _ _ _ hm
  obtain ⟨l0, w0, b0⟩ := rdI_open Tryz.underlying69 Tryz.underlying3 (by kernel_rfl) (hval 0 69 v0 rfl rfl) h0
  clear hA0 hval0
  simp only [List.append_nil] at hW'
  obtain ⟨m, hm⟩ := maxLen_cell W hsh
  refine (walk m v0 l0 W hm w0 b0).mono fun e W' ⟨he, bel⟩ => ?_
  subst he
  exact ⟨_, rfl, _, _, _, [], _, [], hW', trodAll_mk1 (shut_bool Tryz.underlying4 _), (trodAll_cons_mk (Below.trod laidOut (by kernel_rfl) (of_decide_eq_true (by kernel_rfl)) k0 bel lt0) trodAll_mk0), rfl, bel.frame _, fun h => by cases h⟩

theorem over : Rows.clientTwoRow.holds Tryz.pinned (OpenSpec.ofChange Rows.clientTwoSpec) :=
  OpenClaim.holds_of_wide 8 Tryz.f8 rfl rfl rfl rfl rfl rfl rfl ⟨rfl, rfl, rfl, rfl, rfl⟩ rfl rfl rfl rfl rfl (by kernel_rfl) Tryz.func8 (by kernel_rfl)
    (of_decide_eq_true (by kernel_rfl)) (by unfold Func.isWrapper; first | (rw [if_pos (by decide +kernel)]; kernel_rfl) | (rw [if_neg (by decide +kernel)]; exact ⟨rfl, rfl⟩))
    (fun os started H enc _ => lifted os started H enc)

theorem proved : Rows.ClientTwoSaid := over
end Go.Proofs.YtbonjbokofkafaaGreat.lawClientTwo
