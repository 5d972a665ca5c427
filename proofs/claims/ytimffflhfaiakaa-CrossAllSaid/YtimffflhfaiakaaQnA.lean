/- Contracts: what most have; who has how much. -/
import Derived.Test.YtimffflhfaiakaaQnP
import Derived.Test.YtimffflhfaiakaaPlanB
import Derived.Test.YtimffflhfaiakaaTeamR
import Derived.StillTailTactics
namespace Go.Proofs.Ytimffflhfaiakaa
open Go.RowKit
set_option linter.unusedVariables false

set_option maxRecDepth 100000 in
set_option maxHeartbeats 4000000 in
theorem qmost_any (b : Nat) (n mem me : Int) (H P : List Int) (last : Int) (h0 h1 h2 h3 h4 h5 h6 h7 : Int) (w : World) (hq : qO w b n mem me H P last) (hn : 3 ≤ n) (hn7 : n ≤ 7) :
    Calls Try.prog 45 #[.pointer (some ⟨b, 0, none⟩), .agg #[.int .i64 h0, .int .i64 h1, .int .i64 h2, .int .i64 h3, .int .i64 h4, .int .i64 h5, .int .i64 h6, .int .i64 h7]] w
      fun r w' => r = .returned (.int .i64 (medS [h0, h1, h2, h3, h4, h5, h6, h7] n.toNat)) ∧ Below w.heap.size w w' := by
  obtain ⟨W1, hW1⟩ : ∃ W, W = w.alloc (.cells #[.int .i64 h0, .int .i64 h1, .int .i64 h2, .int .i64 h3, .int .i64 h4, .int .i64 h5, .int .i64 h6, .int .i64 h7] 52) := ⟨_, rfl⟩
  have hB1 : Below w.heap.size w W1 := hW1 ▸ (Below.refl _ _).alloc (Nat.le_refl _) _
  have hx1 : W1.heap[w.heap.size]? = some (.cells #[.int .i64 h0, .int .i64 h1, .int .i64 h2, .int .i64 h3, .int .i64 h4, .int .i64 h5, .int .i64 h6, .int .i64 h7] 52 (0, 0)) := hW1 ▸ at_new _ _
  have hq1 := hq.below hB1
  have e0 := cell_at hq1.1 0
  rw [show (qC n mem me H P last)[0]? = some (.int .i64 n) from rfl] at e0
  replace hB1 := Lib.hid hB1
  replace hx1 := Lib.hid hx1
  replace hq1 := Lib.hid hq1
  replace hq := Lib.hid hq
  obtain ⟨nb, hnb⟩ : ∃ nb, nb = w.heap.size := ⟨_, rfl⟩
  rw [← hnb] at hx1
  go_enter Try.func45, Try.ntmps45
  go_upto_region 1 with (fail)
  rw [← hW1, ← hnb]
  clear hW1
  replace hnb := Lib.hid hnb
  rcases ns hn hn7 with rfl | rfl | rfl | rfl | rfl
  · have hc : ∀ j (h : j < ([h1, h2, h3] : List Int).length), W1.cell? ⟨nb, 1 + j, none⟩ = some (.int .i64 ([h1, h2, h3] : List Int)[j]) := by
      intro j h
      rw [cell_at hx1.out]
      rcases (by simp at h; omega : j = 0 ∨ j = 1 ∨ j = 2) with rfl | rfl | rfl <;> rfl
    replace hc := Lib.hid hc
    clear hn hn7
    go_wp2_with fail
    refine (sCloneI_any nb 1 7 [h1, h2, h3] _ (by simp) hc.out).mono ?_
    rintro r w2 ⟨v2, rfl, ho2, hb2⟩
    obtain ⟨g, cap, rfl, _, _⟩ := ho2.form (by simp)
    have hq2 := hq1.out.below hb2
    have hB2 := hB1.out.trans (hb2.mono hB1.out.size)
    clear e0 hb2
    replace ho2 := Lib.hid ho2
    replace hq2 := Lib.hid hq2
    replace hB2 := Lib.hid hB2
    go_wp2_with fail
    refine (sSortI_any g cap _ [h1, h2, h3] _ ho2.out (by simp)).mono ?_
    rintro r w3 ⟨rfl, ho3, hc3⟩
    have hgw : w.heap.size ≤ g := Nat.le_trans hB1.out.size (ho2.out.lt g rfl).1
    have hB3 := hB2.out.trans (hc3.below hB2.out.size fun k hk => by have : k = g := hk; omega)
    have hq3 : qO w3 b 3 mem me H P last := ⟨at_chg hq2.out.1 hc3 (fun e => by have := at_lt hq.out.1; omega), hq2.out.2⟩
    have e0 := cell_at hq3.1 0
    rw [show (qC 3 mem me H P last)[0]? = some (.int .i64 3) from rfl] at e0
    have hsl : (sortI [h1, h2, h3]).length = 3 := sortI_len _
    obtain ⟨a3, c3, he3, hm3, hM3, hx3⟩ := ho3.rd
    rw [hsl] at he3
    injection he3 with q1 q2 q3
    subst q3
    obtain ⟨g', off, e3, hx⟩ := hx3 (by rw [hsl]; omega)
    rw [e3] at q1
    injection q1 with q1; injection q1 with q1 q4
    subst q1 q4
    have hx := hx 1 (by rw [hsl]; omega)
    have hmed : (sortI [h1, h2, h3])[1]'(by rw [hsl]; omega) = medS [h0, h1, h2, h3, h4, h5, h6, h7] (Int.toNat 3) := by
      show _ = (sortI [h1, h2, h3]).getD 1 0
      simp [List.getD, hsl]
    rw [hmed] at hx
    clear hmed
    clear ho3 hc3 hx3 hsl hm3 e3
    replace hq3 := Lib.hid hq3
    go_wp2
    go_ret
    exact ⟨rfl, hB3⟩
  · have hc : ∀ j (h : j < ([h1, h2, h3, h4] : List Int).length), W1.cell? ⟨nb, 1 + j, none⟩ = some (.int .i64 ([h1, h2, h3, h4] : List Int)[j]) := by
      intro j h
      rw [cell_at hx1.out]
      rcases (by simp at h; omega : j = 0 ∨ j = 1 ∨ j = 2 ∨ j = 3) with rfl | rfl | rfl | rfl <;> rfl
    replace hc := Lib.hid hc
    clear hn hn7
    go_wp2_with fail
    refine (sCloneI_any nb 1 7 [h1, h2, h3, h4] _ (by simp) hc.out).mono ?_
    rintro r w2 ⟨v2, rfl, ho2, hb2⟩
    obtain ⟨g, cap, rfl, _, _⟩ := ho2.form (by simp)
    have hq2 := hq1.out.below hb2
    have hB2 := hB1.out.trans (hb2.mono hB1.out.size)
    clear e0 hb2
    replace ho2 := Lib.hid ho2
    replace hq2 := Lib.hid hq2
    replace hB2 := Lib.hid hB2
    go_wp2_with fail
    refine (sSortI_any g cap _ [h1, h2, h3, h4] _ ho2.out (by simp)).mono ?_
    rintro r w3 ⟨rfl, ho3, hc3⟩
    have hgw : w.heap.size ≤ g := Nat.le_trans hB1.out.size (ho2.out.lt g rfl).1
    have hB3 := hB2.out.trans (hc3.below hB2.out.size fun k hk => by have : k = g := hk; omega)
    have hq3 : qO w3 b 4 mem me H P last := ⟨at_chg hq2.out.1 hc3 (fun e => by have := at_lt hq.out.1; omega), hq2.out.2⟩
    have e0 := cell_at hq3.1 0
    rw [show (qC 4 mem me H P last)[0]? = some (.int .i64 4) from rfl] at e0
    have hsl : (sortI [h1, h2, h3, h4]).length = 4 := sortI_len _
    obtain ⟨a3, c3, he3, hm3, hM3, hx3⟩ := ho3.rd
    rw [hsl] at he3
    injection he3 with q1 q2 q3
    subst q3
    obtain ⟨g', off, e3, hx⟩ := hx3 (by rw [hsl]; omega)
    rw [e3] at q1
    injection q1 with q1; injection q1 with q1 q4
    subst q1 q4
    have hx := hx 1 (by rw [hsl]; omega)
    have hmed : (sortI [h1, h2, h3, h4])[1]'(by rw [hsl]; omega) = medS [h0, h1, h2, h3, h4, h5, h6, h7] (Int.toNat 4) := by
      show _ = (sortI [h1, h2, h3, h4]).getD 1 0
      simp [List.getD, hsl]
    rw [hmed] at hx
    clear hmed
    clear ho3 hc3 hx3 hsl hm3 e3
    replace hq3 := Lib.hid hq3
    go_wp2
    go_ret
    exact ⟨rfl, hB3⟩
  · have hc : ∀ j (h : j < ([h1, h2, h3, h4, h5] : List Int).length), W1.cell? ⟨nb, 1 + j, none⟩ = some (.int .i64 ([h1, h2, h3, h4, h5] : List Int)[j]) := by
      intro j h
      rw [cell_at hx1.out]
      rcases (by simp at h; omega : j = 0 ∨ j = 1 ∨ j = 2 ∨ j = 3 ∨ j = 4) with rfl | rfl | rfl | rfl | rfl <;> rfl
    replace hc := Lib.hid hc
    clear hn hn7
    go_wp2_with fail
    refine (sCloneI_any nb 1 7 [h1, h2, h3, h4, h5] _ (by simp) hc.out).mono ?_
    rintro r w2 ⟨v2, rfl, ho2, hb2⟩
    obtain ⟨g, cap, rfl, _, _⟩ := ho2.form (by simp)
    have hq2 := hq1.out.below hb2
    have hB2 := hB1.out.trans (hb2.mono hB1.out.size)
    clear e0 hb2
    replace ho2 := Lib.hid ho2
    replace hq2 := Lib.hid hq2
    replace hB2 := Lib.hid hB2
    go_wp2_with fail
    refine (sSortI_any g cap _ [h1, h2, h3, h4, h5] _ ho2.out (by simp)).mono ?_
    rintro r w3 ⟨rfl, ho3, hc3⟩
    have hgw : w.heap.size ≤ g := Nat.le_trans hB1.out.size (ho2.out.lt g rfl).1
    have hB3 := hB2.out.trans (hc3.below hB2.out.size fun k hk => by have : k = g := hk; omega)
    have hq3 : qO w3 b 5 mem me H P last := ⟨at_chg hq2.out.1 hc3 (fun e => by have := at_lt hq.out.1; omega), hq2.out.2⟩
    have e0 := cell_at hq3.1 0
    rw [show (qC 5 mem me H P last)[0]? = some (.int .i64 5) from rfl] at e0
    have hsl : (sortI [h1, h2, h3, h4, h5]).length = 5 := sortI_len _
    obtain ⟨a3, c3, he3, hm3, hM3, hx3⟩ := ho3.rd
    rw [hsl] at he3
    injection he3 with q1 q2 q3
    subst q3
    obtain ⟨g', off, e3, hx⟩ := hx3 (by rw [hsl]; omega)
    rw [e3] at q1
    injection q1 with q1; injection q1 with q1 q4
    subst q1 q4
    have hx := hx 2 (by rw [hsl]; omega)
    have hmed : (sortI [h1, h2, h3, h4, h5])[2]'(by rw [hsl]; omega) = medS [h0, h1, h2, h3, h4, h5, h6, h7] (Int.toNat 5) := by
      show _ = (sortI [h1, h2, h3, h4, h5]).getD 2 0
      simp [List.getD, hsl]
    rw [hmed] at hx
    clear hmed
    clear ho3 hc3 hx3 hsl hm3 e3
    replace hq3 := Lib.hid hq3
    go_wp2
    go_ret
    exact ⟨rfl, hB3⟩
  · have hc : ∀ j (h : j < ([h1, h2, h3, h4, h5, h6] : List Int).length), W1.cell? ⟨nb, 1 + j, none⟩ = some (.int .i64 ([h1, h2, h3, h4, h5, h6] : List Int)[j]) := by
      intro j h
      rw [cell_at hx1.out]
      rcases (by simp at h; omega : j = 0 ∨ j = 1 ∨ j = 2 ∨ j = 3 ∨ j = 4 ∨ j = 5) with rfl | rfl | rfl | rfl | rfl | rfl <;> rfl
    replace hc := Lib.hid hc
    clear hn hn7
    go_wp2_with fail
    refine (sCloneI_any nb 1 7 [h1, h2, h3, h4, h5, h6] _ (by simp) hc.out).mono ?_
    rintro r w2 ⟨v2, rfl, ho2, hb2⟩
    obtain ⟨g, cap, rfl, _, _⟩ := ho2.form (by simp)
    have hq2 := hq1.out.below hb2
    have hB2 := hB1.out.trans (hb2.mono hB1.out.size)
    clear e0 hb2
    replace ho2 := Lib.hid ho2
    replace hq2 := Lib.hid hq2
    replace hB2 := Lib.hid hB2
    go_wp2_with fail
    refine (sSortI_any g cap _ [h1, h2, h3, h4, h5, h6] _ ho2.out (by simp)).mono ?_
    rintro r w3 ⟨rfl, ho3, hc3⟩
    have hgw : w.heap.size ≤ g := Nat.le_trans hB1.out.size (ho2.out.lt g rfl).1
    have hB3 := hB2.out.trans (hc3.below hB2.out.size fun k hk => by have : k = g := hk; omega)
    have hq3 : qO w3 b 6 mem me H P last := ⟨at_chg hq2.out.1 hc3 (fun e => by have := at_lt hq.out.1; omega), hq2.out.2⟩
    have e0 := cell_at hq3.1 0
    rw [show (qC 6 mem me H P last)[0]? = some (.int .i64 6) from rfl] at e0
    have hsl : (sortI [h1, h2, h3, h4, h5, h6]).length = 6 := sortI_len _
    obtain ⟨a3, c3, he3, hm3, hM3, hx3⟩ := ho3.rd
    rw [hsl] at he3
    injection he3 with q1 q2 q3
    subst q3
    obtain ⟨g', off, e3, hx⟩ := hx3 (by rw [hsl]; omega)
    rw [e3] at q1
    injection q1 with q1; injection q1 with q1 q4
    subst q1 q4
    have hx := hx 2 (by rw [hsl]; omega)
    have hmed : (sortI [h1, h2, h3, h4, h5, h6])[2]'(by rw [hsl]; omega) = medS [h0, h1, h2, h3, h4, h5, h6, h7] (Int.toNat 6) := by
      show _ = (sortI [h1, h2, h3, h4, h5, h6]).getD 2 0
      simp [List.getD, hsl]
    rw [hmed] at hx
    clear hmed
    clear ho3 hc3 hx3 hsl hm3 e3
    replace hq3 := Lib.hid hq3
    go_wp2
    go_ret
    exact ⟨rfl, hB3⟩
  · have hc : ∀ j (h : j < ([h1, h2, h3, h4, h5, h6, h7] : List Int).length), W1.cell? ⟨nb, 1 + j, none⟩ = some (.int .i64 ([h1, h2, h3, h4, h5, h6, h7] : List Int)[j]) := by
      intro j h
      rw [cell_at hx1.out]
      rcases (by simp at h; omega : j = 0 ∨ j = 1 ∨ j = 2 ∨ j = 3 ∨ j = 4 ∨ j = 5 ∨ j = 6) with rfl | rfl | rfl | rfl | rfl | rfl | rfl <;> rfl
    replace hc := Lib.hid hc
    clear hn hn7
    go_wp2_with fail
    refine (sCloneI_any nb 1 7 [h1, h2, h3, h4, h5, h6, h7] _ (by simp) hc.out).mono ?_
    rintro r w2 ⟨v2, rfl, ho2, hb2⟩
    obtain ⟨g, cap, rfl, _, _⟩ := ho2.form (by simp)
    have hq2 := hq1.out.below hb2
    have hB2 := hB1.out.trans (hb2.mono hB1.out.size)
    clear e0 hb2
    replace ho2 := Lib.hid ho2
    replace hq2 := Lib.hid hq2
    replace hB2 := Lib.hid hB2
    go_wp2_with fail
    refine (sSortI_any g cap _ [h1, h2, h3, h4, h5, h6, h7] _ ho2.out (by simp)).mono ?_
    rintro r w3 ⟨rfl, ho3, hc3⟩
    have hgw : w.heap.size ≤ g := Nat.le_trans hB1.out.size (ho2.out.lt g rfl).1
    have hB3 := hB2.out.trans (hc3.below hB2.out.size fun k hk => by have : k = g := hk; omega)
    have hq3 : qO w3 b 7 mem me H P last := ⟨at_chg hq2.out.1 hc3 (fun e => by have := at_lt hq.out.1; omega), hq2.out.2⟩
    have e0 := cell_at hq3.1 0
    rw [show (qC 7 mem me H P last)[0]? = some (.int .i64 7) from rfl] at e0
    have hsl : (sortI [h1, h2, h3, h4, h5, h6, h7]).length = 7 := sortI_len _
    obtain ⟨a3, c3, he3, hm3, hM3, hx3⟩ := ho3.rd
    rw [hsl] at he3
    injection he3 with q1 q2 q3
    subst q3
    obtain ⟨g', off, e3, hx⟩ := hx3 (by rw [hsl]; omega)
    rw [e3] at q1
    injection q1 with q1; injection q1 with q1 q4
    subst q1 q4
    have hx := hx 3 (by rw [hsl]; omega)
    have hmed : (sortI [h1, h2, h3, h4, h5, h6, h7])[3]'(by rw [hsl]; omega) = medS [h0, h1, h2, h3, h4, h5, h6, h7] (Int.toNat 7) := by
      show _ = (sortI [h1, h2, h3, h4, h5, h6, h7]).getD 3 0
      simp [List.getD, hsl]
    rw [hmed] at hx
    clear hmed
    clear ho3 hc3 hx3 hsl hm3 e3
    replace hq3 := Lib.hid hq3
    go_wp2
    go_ret
    exact ⟨rfl, hB3⟩
end Go.Proofs.Ytimffflhfaiakaa
