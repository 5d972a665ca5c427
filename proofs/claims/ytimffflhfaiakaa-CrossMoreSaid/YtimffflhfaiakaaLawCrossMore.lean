/- One range more makes no count less, and its own times one more. -/
import Derived.Test.YtimffflhfaiakaaCrF
import Derived.Test.YtimffflhfaiakaaCrR
import Derived.Test.YtimffflhfaiakaaPlanE
import Derived.Test.YtimffflhfaiakaaFrame
namespace Go.Proofs.Ytimffflhfaiakaa.lawCrossMore
open Go.ChangeShapes Go.WideShapes Go.ChangeAt Go.RowKit
set_option linter.unusedVariables false

def okRg (x : Rg) : Prop := I64 x.low ∧ I64 x.high
set_option maxRecDepth 100000 in
theorem range_open {H : Type} {enc : TypeId × Value → H} {W : World} {base : Nat} {v : Value} {d : DataW H} {ps : List MemPlace}
    (hok : Value.okWide Try.prog W .any base 28 v) (h : DataW.Trod enc Try.prog W 0 (fun _ => true) true 28 v d ps) : ∃ x : Rg, v = .agg #[.int .i64 x.low, .int .i64 x.high] ∧ okRg x := by
  have he : Try.prog.underlying 28 = some (.struct (fieldsOf Try.prog 28)) := by kernel_rfl
  obtain ⟨cs, rfl, hcs⟩ := okWide_struct he hok
  have hc2 : Try.prog.cellsOf 28 = 2 := by kernel_rfl
  rw [hc2] at hcs
  obtain ⟨fuel, hf⟩ := h
  obtain ⟨xs, k, _, _, _, hxl, hfl⟩ := DataW.trod_struct he hf
  have hl : (Value.agg cs).cells.toList.length = 2 := by simpa [Value.cells] using hcs
  obtain ⟨f0, a1, a2, a3, u0, a4, a5⟩ := fieldOf1_spec rangeF0
  obtain ⟨z0, b1, b2⟩ := fint_at hxl hfl a1 a2 a3 (by rw [a4, isI64d_spec a5]) (by omega)
  obtain ⟨f1, c1, c2, c3, u1, c4, c5⟩ := fieldOf1_spec rangeF1
  obtain ⟨z1, d1, d2⟩ := fint_at hxl hfl c1 c2 c3 (by rw [c4, isI64d_spec c5]) (by omega)
  refine ⟨⟨z0, z1⟩, ?_, b2, d2⟩
  congr 1
  simp only [Value.cells, Array.getElem?_toList] at b1 d1
  apply Array.ext
  · simpa using hcs
  · intro i h1 h2
    have : i < 2 := by simpa using h2
    match i, this with
    | 0, _ => rw [Array.getElem?_eq_getElem h1] at b1; injection b1
    | 1, _ => rw [Array.getElem?_eq_getElem h1] at d1; injection d1
theorem rdR.src {w : World} {v : Value} {l : List Rg} (h : rdR w v l) : srcRow w 2 v l.length (flatR l) := by
  obtain ⟨a, cap, rfl, hm, hM, ha⟩ := h
  refine ⟨flatR_len l, ?_⟩
  cases a with
  | none =>
    refine .inl ⟨cap, ?_⟩
    rcases Nat.eq_zero_or_pos l.length with h | h
    · rw [h]; exact ⟨rfl, rfl⟩
    · obtain ⟨b, off, e, _⟩ := ha h; cases e
  | some ad =>
    refine .inr ⟨ad, cap, rfl, fun j u hj => ?_⟩
    have hjl : j < l.length * 2 := by
      have := (List.getElem?_eq_some_iff.1 hj).1
      rwa [flatR_len] at this
    obtain ⟨b, off, e, hc⟩ := ha (by omega)
    injection e with e
    subst e
    obtain ⟨c0, c1⟩ := hc (j / 2) (by omega)
    have hg := flatR_get l (j / 2) (by omega) (j % 2) (Nat.mod_lt _ (by omega))
    rw [show j / 2 * 2 + j % 2 = j by omega, hj] at hg
    rw [show (⟨b, off, none⟩ : Addr).add j = ⟨b, off + j, none⟩ by cases j <;> simp [Addr.add]]
    rcases (show j % 2 = 0 ∨ j % 2 = 1 by omega) with h | h
    · rw [h] at hg
      have : u = .int .i64 (l[j / 2]'(by omega)).low := by injection hg
      rw [this, show off + j = off + j / 2 * 2 by omega]; exact c0
    · rw [h] at hg
      have : u = .int .i64 (l[j / 2]'(by omega)).high := by injection hg
      rw [this, show off + j = off + j / 2 * 2 + 1 by omega]; exact c1
theorem flatR_one (l : List Rg) : ∀ u ∈ flatR l, u.oneCell' = true := by
  intro u hu
  obtain ⟨x, _, hx⟩ := List.mem_flatMap.1 hu
  exact news_rg x u hx
theorem src_block {w : World} {g : Nat} {x y : Value} {E : TypeId} {fr : Nat × Nat} (h : w.heap[g]? = some (.cells #[x, y] E fr)) : srcRow w 2 (.slice (some ⟨g, 0, none⟩) 1 1) 1 [x, y] := by
  refine ⟨rfl, .inr ⟨⟨g, 0, none⟩, 1, rfl, fun j u hj => ?_⟩⟩
  have := cell_at h j
  rw [show (⟨g, 0, none⟩ : Addr).add j = ⟨g, j, none⟩ by cases j <;> simp [Addr.add], this, ← hj]
  simp
theorem cnt_more (L : List Rg) (r : Rg) (t : Int) : cntR (L ++ [r]) t = cntR L t + if inR r t = true then 1 else 0 := by
  unfold cntR
  rw [List.countP_append]
  simp only [List.countP_cons, List.countP_nil, Nat.zero_add]
theorem okR_more {L : List Rg} {r : Rg} (h : okR L) (hr : okRg r) : okR (L ++ [r]) := by
  intro x hx
  rw [List.mem_append, List.mem_singleton] at hx
  rcases hx with h1 | rfl
  · exact h x h1
  · exact hr
theorem best_more {L : List Rg} {r b b' : Rg} {n m : Nat} (h : BestS L b n) (h' : BestS (L ++ [r]) b' m) : n ≤ m ∧ m ≤ n + 1 := by
  constructor
  · rcases Nat.eq_zero_or_pos n with h0 | h0
    · omega
    · obtain ⟨p1, _, p3⟩ := h.rng h0
      have e := h.same h0 b.low (Int.le_refl _) p3
      have := h'.top b.low p1.2
      rw [cnt_more] at this
      omega
  · rcases Nat.eq_zero_or_pos m with h0 | h0
    · omega
    · obtain ⟨p1, _, p3⟩ := h'.rng h0
      have e := h'.same h0 b'.low (Int.le_refl _) p3
      have := h.top b'.low p1.2
      rw [cnt_more] at e
      split at e <;> omega

set_option maxRecDepth 100000 in
set_option maxHeartbeats 16000000 in
theorem walk (v : Value) (l : List Rg) (vr : Value) (x : Rg) (t : Int) (w : World) (hr : rdR w v l) (hok : okR l) (hvr : vr = .agg #[.int .i64 x.low, .int .i64 x.high]) (hx : okRg x) (ht : I64 t) :
    Calls Try.prog 7 #[v, vr, .int .i64 t] w fun e w' => e = .returned (.bool true) ∧ Below w.heap.size w w' := by
  subst hvr
  obtain ⟨ht1, ht2⟩ := ht
  obtain ⟨lo, hh⟩ := x
  obtain ⟨⟨hx1, hx2⟩, ⟨hx3, hx4⟩⟩ := id hx
  dsimp only at hx1 hx2 hx3 hx4 ⊢
  obtain ⟨i0, hi, hz0, hz1, hz2⟩ := info_parts infoRange
  replace hi := Lib.hid hi
  replace hr := Lib.hid hr
  have hB := Lib.hid (Below.refl w.heap.size w)
  go_enter Try.func7, Try.ntmps7
  obtain ⟨wa0, hwa0⟩ : ∃ W, W = w.alloc (.cells #[.int .i64 lo, .int .i64 hh] 28) := ⟨_, rfl⟩
  have hba : Below w.heap.size w wa0 := hwa0 ▸ (Below.refl _ _).alloc (Nat.le_refl _) _
  have hx0 : wa0.heap[w.heap.size]? = some (.cells #[.int .i64 lo, .int .i64 hh] 28 (0, 0)) := hwa0 ▸ at_new _ _
  obtain ⟨n0, hn0⟩ : ∃ n, n = w.heap.size := ⟨_, rfl⟩
  rw [← hn0] at hx0
  replace hx0 := Lib.hid hx0
  replace hB := Lib.hid (hB.out.trans (hba.mono hB.out.size))
  replace hr := Lib.hid (hr.out.grow hba)
  clear hba
  go_upto_region 1 with (fail)
  rw [← hwa0, ← hn0]
  clear hwa0
  replace hn0 := Lib.hid hn0
  go_wp2_with fail
  refine (b10_any _).mono ?_
  rintro r w1 ⟨rfl, hb1⟩
  replace hB := Lib.hid (hB.out.trans (hb1.mono hB.out.size))
  replace hr := Lib.hid (hr.out.grow hb1)
  replace hx0 := Lib.hid (at_below hx0.out hb1)
  clear hb1
  go_wp2_with fail
  refine (of10_any v l _ hr.out).mono ?_
  rintro r w2 ⟨v2, u, rfl, hr2, hu, hb2⟩
  clear hr
  replace hB := Lib.hid (hB.out.trans (hb2.mono hB.out.size))
  replace hx0 := Lib.hid (at_below hx0.out hb2)
  clear hb2
  have hok2 := okR_take hok 12
  have hl12 : (l.take 12).length ≤ 12 := by rw [List.length_take]; omega
  generalize l.take 12 = L at hr2 hok2 hl12 hu
  clear hok hu
  replace hr2 := Lib.hid hr2
  have hokM := okR_more hok2 hx
  have hlM : (L ++ [(⟨lo, hh⟩ : Rg)]).length ≤ 1000 := by simp; omega
  have hS := best_spec L hok2
  have hS2 := best_spec (L ++ [(⟨lo, hh⟩ : Rg)]) hokM
  have hcm := cnt_more L (⟨lo, hh⟩ : Rg) t
  obtain ⟨⟨⟨bl, bh⟩, n⟩, hbst⟩ : ∃ x, bestR L = x := ⟨_, rfl⟩
  obtain ⟨⟨⟨ml, mh⟩, m⟩, hmst⟩ : ∃ x, bestR (L ++ [(⟨lo, hh⟩ : Rg)]) = x := ⟨_, rfl⟩
  obtain ⟨a, ha⟩ : ∃ c, cntR L t = c := ⟨_, rfl⟩
  obtain ⟨b, hb⟩ : ∃ c, cntR (L ++ [(⟨lo, hh⟩ : Rg)]) t = c := ⟨_, rfl⟩
  obtain ⟨inb, hinb⟩ : ∃ q, inR (⟨lo, hh⟩ : Rg) t = q := ⟨_, rfl⟩
  rw [hbst] at hS
  rw [hmst] at hS2
  obtain ⟨hm1, hm2⟩ := best_more hS hS2
  dsimp only at hm1 hm2
  rw [ha, hb, hinb] at hcm
  have ha12 : a ≤ 12 := by rw [← ha]; exact Nat.le_trans (cntR_le _ _) hl12
  replace hbst := Lib.hid hbst
  replace hmst := Lib.hid hmst
  replace ha := Lib.hid ha
  replace hb := Lib.hid hb
  unfold inR at hinb
  dsimp only at hinb
  replace hinb := Lib.hid hinb
  replace hcm := Lib.hid hcm
  replace hm1 := Lib.hid hm1
  replace hm2 := Lib.hid hm2
  replace hokM := Lib.hid hokM
  replace hlM := Lib.hid hlM
  clear hS hS2
  go_wp2_with fail
  refine (xCount_any _ L t _ hr2.out).mono ?_
  rintro r w3 ⟨rfl, hb3⟩
  rw [ha.out]
  replace hB := Lib.hid (hB.out.trans (hb3.mono hB.out.size))
  replace hx0 := Lib.hid (at_below hx0.out hb3)
  replace hr2 := Lib.hid (hr2.out.grow hb3)
  clear hb3
  have f0 := cell_at hx0.out 0
  have f1 := cell_at hx0.out 1
  simp only [List.getElem?_toArray, List.getElem?_cons_zero, List.getElem?_cons_succ] at f0 f1
  go_upto_region 6 with (fail)
  go_cut [9] (fun s wx => s = .int .i64 ((b : Nat) : Int) ∧ Below w3.heap.size w3 wx)
  case first =>
    have u0 := upF_cell (F := fun _ => False) (b := w3) (fun h => h) f0
    have u1 := upF_cell (F := fun _ => False) (b := w3) (fun h => h) f1
    refine wp_region_pm (fun _ => False) w3 (.q 0 (.q 2 (.q 5 (.two 1 (.l 3 (.l 4 (.l 6 (.q 7 .fin)))) 3 (.l 1 (.l 4 (.l 6 (.q 7 .fin)))))))) (by kernel_rfl) (by kernel_rfl) (Chg.refl _ _) ?_
    intro y0 hheap hy0 hyF
    clear hheap hyF
    have hsrc := Lib.hid ((rdR.src hr2.out).below hy0)
    clear hB hr2 hx0 f0 f1
    have hB := Lib.hid hy0
    clear hy0
    refine pm_q rfl ?_; go_big_quiet_step (fail); refine wpQuiet_nil ?_
    refine pm_q rfl ?_; go_big_quiet_step (fail); refine wpQuiet_nil ?_
    refine pm_q rfl ?_; go_big_quiet_step (fail); refine wpQuiet_nil ?_
    refine pm_two ?_ ?_
    · refine pm_l rfl (by kernel_rfl) ?_
      intro K hK
      refine wp_src _ (.const (.slice none 0 0)) (.tmp 26) 22 rfl w3.heap.size 28 i0 (.agg #[.int .i64 0, .int .i64 0]) 2 16 Try.underlying22 hi.out hz0 hz1 hz2 rfl (by decide) (.slice none 0 0) 0 [] rfl (World.ownsRow_nil _ _ _ _) v2 L.length (flatR L) rfl hsrc.out (flatR_one L) (by unfold maxLen; omega) (by omega) hB.out.size ?_
      intro v3 y1 ho3 hg3 hat3
      rw [Nat.zero_add, List.nil_append] at ho3
      have hba : Below y0.heap.size y0 y1 := (Below.refl _ _).grown hg3 (Nat.le_refl _) (fun k hk => by cases hk)
      have hat : ∀ b, v3.ownBlock = some b → b = y0.heap.size := fun b e => by
        rcases hat3 with h | h
        · rw [e] at h; cases h
        · rw [e] at h; injection h
      clear hat hat3 hg3
      clear hsrc
      replace hB := Lib.hid (hB.out.trans (hba.mono hB.out.size))
      clear hba
      replace ho3 := Lib.hid ho3
      refine hK _ _ (Chg.of_below hB.out) ?_
      clear hK K
      obtain ⟨y2, hY⟩ : ∃ Y, Y = y1.alloc (.cells #[.int .i64 lo, .int .i64 hh] 28) := ⟨_, rfl⟩
      have hba : Below y1.heap.size y1 y2 := hY ▸ (Below.refl _ _).alloc (Nat.le_refl _) _
      have hblk : y2.heap[y1.heap.size]? = some (.cells #[.int .i64 lo, .int .i64 hh] 28 (0, 0)) := hY ▸ at_new _ _
      obtain ⟨nb, hn⟩ : ∃ n, n = y1.heap.size := ⟨_, rfl⟩
      rw [← hn] at hblk
      replace hblk := Lib.hid hblk
      replace hB := Lib.hid (hB.out.trans (hba.mono hB.out.size))
      replace ho3 := Lib.hid (row_below ho3.out hba)
      clear hba
      refine pm_l rfl (by kernel_rfl) ?_
      intro K hK
      go_simp
      rw [← hY, ← hn]
      refine hK _ _ (Chg.of_below hB.out) ?_
      clear hK K
      clear hY hn
      refine pm_l rfl (by kernel_rfl) ?_
      intro K hK
      refine wp_src _ (.tmp 27) (.tmp 29) 22 rfl w3.heap.size 28 i0 (.agg #[.int .i64 0, .int .i64 0]) 2 16 Try.underlying22 hi.out hz0 hz1 hz2 rfl (by decide) v3 L.length (flatR L) rfl ho3.out (.slice (some ⟨nb, 0, none⟩) 1 1) 1 (⟨lo, hh⟩ : Rg).cells rfl (src_block hblk.out) (news_rg _) (by unfold maxLen; omega) (by omega) hB.out.size ?_
      intro v4 y3 ho4 hg4 hat4
      have hB4 : Below w3.heap.size w3 y3 := hB.out.grown hg4 hB.out.size (fun k hk => (ho3.out.lt k hk).1)
      have hd4 := Lib.hid (ownR_snoc rfl ho4).rd
      replace hB := Lib.hid hB4
      clear hB4 ho4 hg4 hat4
      clear ho3 hblk
      refine hK _ _ (Chg.of_below hB.out) ?_
      clear hK K
      refine pm_l rfl (by kernel_rfl) ?_
      intro K hK
      go_simp
      refine (xCount_any v4 (L ++ [⟨lo, hh⟩]) t _ hd4.out).mono ?_
      rintro r y4 ⟨rfl, hba⟩
      rw [hb.out]
      clear hd4
      replace hB := Lib.hid (hB.out.trans (hba.mono hB.out.size))
      clear hba
      refine hK _ _ (Chg.of_below hB.out) ?_
      clear hK K
      refine pm_q rfl ?_; go_big_quiet_step (fail); refine wpQuiet_nil ?_
      refine pm_fin ?_
      replace hB := Lib.hid hB.out
      go_wp2_with fail
      go_meet
      exact ⟨rfl, hB.out⟩
    · obtain ⟨y5, hY⟩ : ∃ Y, Y = y0.alloc (.cells #[.int .i64 lo, .int .i64 hh] 28) := ⟨_, rfl⟩
      have hba : Below y0.heap.size y0 y5 := hY ▸ (Below.refl _ _).alloc (Nat.le_refl _) _
      have hblk : y5.heap[y0.heap.size]? = some (.cells #[.int .i64 lo, .int .i64 hh] 28 (0, 0)) := hY ▸ at_new _ _
      obtain ⟨nb, hn⟩ : ∃ n, n = y0.heap.size := ⟨_, rfl⟩
      rw [← hn] at hblk
      replace hblk := Lib.hid hblk
      replace hB := Lib.hid (hB.out.trans (hba.mono hB.out.size))
      replace hsrc := Lib.hid (hsrc.out.below hba)
      clear hba
      refine pm_l rfl (by kernel_rfl) ?_
      intro K hK
      go_simp
      rw [← hY, ← hn]
      refine hK _ _ (Chg.of_below hB.out) ?_
      clear hK K
      clear hY hn
      refine pm_l rfl (by kernel_rfl) ?_
      intro K hK
      refine wp_src _ (.const (.slice none 0 0)) (.tmp 26) 22 rfl w3.heap.size 28 i0 (.agg #[.int .i64 0, .int .i64 0]) 2 16 Try.underlying22 hi.out hz0 hz1 hz2 rfl (by decide) (.slice none 0 0) 0 [] rfl (World.ownsRow_nil _ _ _ _) v2 L.length (flatR L) rfl hsrc.out (flatR_one L) (by unfold maxLen; omega) (by omega) hB.out.size ?_
      intro v3 y6 ho3 hg3 hat3
      rw [Nat.zero_add, List.nil_append] at ho3
      have hba : Below y5.heap.size y5 y6 := (Below.refl _ _).grown hg3 (Nat.le_refl _) (fun k hk => by cases hk)
      have hat : ∀ b, v3.ownBlock = some b → b = y5.heap.size := fun b e => by
        rcases hat3 with h | h
        · rw [e] at h; cases h
        · rw [e] at h; injection h
      clear hat hat3 hg3
      clear hsrc
      replace hB := Lib.hid (hB.out.trans (hba.mono hB.out.size))
      replace hblk := Lib.hid (at_below hblk.out hba)
      clear hba
      replace ho3 := Lib.hid ho3
      refine hK _ _ (Chg.of_below hB.out) ?_
      clear hK K
      refine pm_l rfl (by kernel_rfl) ?_
      intro K hK
      refine wp_src _ (.tmp 27) (.tmp 29) 22 rfl w3.heap.size 28 i0 (.agg #[.int .i64 0, .int .i64 0]) 2 16 Try.underlying22 hi.out hz0 hz1 hz2 rfl (by decide) v3 L.length (flatR L) rfl ho3.out (.slice (some ⟨nb, 0, none⟩) 1 1) 1 (⟨lo, hh⟩ : Rg).cells rfl (src_block hblk.out) (news_rg _) (by unfold maxLen; omega) (by omega) hB.out.size ?_
      intro v4 y7 ho4 hg4 hat4
      have hB4 : Below w3.heap.size w3 y7 := hB.out.grown hg4 hB.out.size (fun k hk => (ho3.out.lt k hk).1)
      have hd4 := Lib.hid (ownR_snoc rfl ho4).rd
      replace hB := Lib.hid hB4
      clear hB4 ho4 hg4 hat4
      clear ho3 hblk
      refine hK _ _ (Chg.of_below hB.out) ?_
      clear hK K
      refine pm_l rfl (by kernel_rfl) ?_
      intro K hK
      go_simp
      refine (xCount_any v4 (L ++ [⟨lo, hh⟩]) t _ hd4.out).mono ?_
      rintro r y8 ⟨rfl, hba⟩
      rw [hb.out]
      clear hd4
      replace hB := Lib.hid (hB.out.trans (hba.mono hB.out.size))
      clear hba
      refine hK _ _ (Chg.of_below hB.out) ?_
      clear hK K
      refine pm_q rfl ?_; go_big_quiet_step (fail); refine wpQuiet_nil ?_
      refine pm_fin ?_
      replace hB := Lib.hid hB.out
      go_wp2_with fail
      go_meet
      exact ⟨rfl, hB.out⟩
  case rest =>
    obtain ⟨rfl, hbx⟩ := hcut
    clear f0 f1
    replace hB := Lib.hid (hB.out.trans (hbx.mono hB.out.size))
    replace hx0 := Lib.hid (at_below hx0.out hbx)
    replace hr2 := Lib.hid (hr2.out.grow hbx)
    clear hbx
    have f0 := cell_at hx0.out 0
    have f1 := cell_at hx0.out 1
    simp only [List.getElem?_toArray, List.getElem?_cons_zero, List.getElem?_cons_succ] at f0 f1
    go_upto_region 7 with (fail)
    go_cut [10] (fun s wx => s = .bool inb ∧ wx = wc)
    case first =>
      by_cases g1 : lo ≤ t
      · by_cases g2 : t ≤ hh
        · go_wp2_with fail
          go_meet
          exact ⟨by rw [← hinb.out]; simp [g1, g2], rfl⟩
        · go_wp2_with fail
          go_meet
          exact ⟨by rw [← hinb.out]; simp [g2], rfl⟩
      · go_wp2_with fail
        go_meet
        exact ⟨by rw [← hinb.out]; simp <;> omega, rfl⟩
    case rest =>
      obtain ⟨rfl, rfl⟩ := hcut
      go_wp2_with fail
      refine (xBest_any _ L _ hr2.out hok2 (by omega)).mono ?_
      rintro r w5 ⟨rfl, hb5⟩
      rw [hbst.out]
      replace hB := Lib.hid (hB.out.trans (hb5.mono hB.out.size))
      replace hx0 := Lib.hid (at_below hx0.out hb5)
      replace hr2 := Lib.hid (hr2.out.grow hb5)
      clear hb5
      obtain ⟨wa1, hwa1⟩ : ∃ W, W = w5.alloc (.cells #[.int .i64 bl, .int .i64 bh] 28) := ⟨_, rfl⟩
      have hba : Below w5.heap.size w5 wa1 := hwa1 ▸ (Below.refl _ _).alloc (Nat.le_refl _) _
      have hx1 : wa1.heap[w5.heap.size]? = some (.cells #[.int .i64 bl, .int .i64 bh] 28 (0, 0)) := hwa1 ▸ at_new _ _
      obtain ⟨n1, hn1⟩ : ∃ n, n = w5.heap.size := ⟨_, rfl⟩
      rw [← hn1] at hx1
      replace hx1 := Lib.hid hx1
      replace hB := Lib.hid (hB.out.trans (hba.mono hB.out.size))
      replace hx0 := Lib.hid (at_below hx0.out hba)
      replace hr2 := Lib.hid (hr2.out.grow hba)
      clear hba
      go_upto_region 9 with (fail)
      rw [← hwa1, ← hn1]
      clear hwa1
      replace hn1 := Lib.hid hn1
      clear hx1 f0 f1
      have f0 := cell_at hx0.out 0
      have f1 := cell_at hx0.out 1
      simp only [List.getElem?_toArray, List.getElem?_cons_zero, List.getElem?_cons_succ] at f0 f1
      go_cut [14] (fun s wx => s = .int .i64 ((m : Nat) : Int) ∧ Below wa1.heap.size wa1 wx)
      case first =>
        have u0 := upF_cell (F := fun _ => False) (b := wa1) (fun h => h) f0
        have u1 := upF_cell (F := fun _ => False) (b := wa1) (fun h => h) f1
        refine wp_region_pm (fun _ => False) wa1 (.q 0 (.q 2 (.three 1 (.two 3 (.two 4 (.two 5 (.q 6 (.q 7 (.q 8 (.l 9 (.l 10 (.q 11 .fin)))))) 9 (.l 5 (.q 6 (.q 7 (.q 8 (.l 10 (.q 11 .fin))))))) 9 (.l 4 (.l 5 (.q 6 (.q 7 (.q 8 (.l 10 (.q 11 .fin)))))))) 9 (.l 3 (.l 4 (.l 5 (.q 6 (.q 7 (.q 8 (.l 10 (.q 11 .fin))))))))) 3 (.two 1 (.two 4 (.two 5 (.q 6 (.q 7 (.q 8 (.l 9 (.l 10 (.q 11 .fin)))))) 9 (.l 5 (.q 6 (.q 7 (.q 8 (.l 10 (.q 11 .fin))))))) 9 (.l 4 (.l 5 (.q 6 (.q 7 (.q 8 (.l 10 (.q 11 .fin)))))))) 9 (.l 1 (.l 4 (.l 5 (.q 6 (.q 7 (.q 8 (.l 10 (.q 11 .fin))))))))) 9 (.two 1 (.l 3 (.l 4 (.l 5 (.q 6 (.q 7 (.q 8 (.l 10 (.q 11 .fin)))))))) 3 (.l 1 (.l 4 (.l 5 (.q 6 (.q 7 (.q 8 (.l 10 (.q 11 .fin)))))))))))) (by kernel_rfl) (by kernel_rfl) (Chg.refl _ _) ?_
        intro y0 hheap hy0 hyF
        clear hheap hyF
        have hsrc := Lib.hid ((rdR.src hr2.out).below hy0)
        clear hB hr2 hx0 f0 f1
        have hB := Lib.hid hy0
        clear hy0
        refine pm_q rfl ?_; go_big_quiet_step (fail); refine wpQuiet_nil ?_
        refine pm_q rfl ?_; go_big_quiet_step (fail); refine wpQuiet_nil ?_
        refine pm_three ?_ ?_ ?_
        · refine pm_l rfl (by kernel_rfl) ?_
          intro K hK
          refine wp_src _ (.const (.slice none 0 0)) (.tmp 49) 22 rfl wa1.heap.size 28 i0 (.agg #[.int .i64 0, .int .i64 0]) 2 16 Try.underlying22 hi.out hz0 hz1 hz2 rfl (by decide) (.slice none 0 0) 0 [] rfl (World.ownsRow_nil _ _ _ _) v2 L.length (flatR L) rfl hsrc.out (flatR_one L) (by unfold maxLen; omega) (by omega) hB.out.size ?_
          intro v3 y9 ho3 hg3 hat3
          rw [Nat.zero_add, List.nil_append] at ho3
          have hba : Below y0.heap.size y0 y9 := (Below.refl _ _).grown hg3 (Nat.le_refl _) (fun k hk => by cases hk)
          have hat : ∀ b, v3.ownBlock = some b → b = y0.heap.size := fun b e => by
            rcases hat3 with h | h
            · rw [e] at h; cases h
            · rw [e] at h; injection h
          clear hat hat3 hg3
          clear hsrc
          replace hB := Lib.hid (hB.out.trans (hba.mono hB.out.size))
          clear hba
          replace ho3 := Lib.hid ho3
          refine hK _ _ (Chg.of_below hB.out) ?_
          clear hK K
          refine pm_two ?_ ?_
          · obtain ⟨y10, hY⟩ : ∃ Y, Y = y9.alloc (.cells #[.int .i64 lo, .int .i64 hh] 28) := ⟨_, rfl⟩
            have hba : Below y9.heap.size y9 y10 := hY ▸ (Below.refl _ _).alloc (Nat.le_refl _) _
            have hblk : y10.heap[y9.heap.size]? = some (.cells #[.int .i64 lo, .int .i64 hh] 28 (0, 0)) := hY ▸ at_new _ _
            obtain ⟨nb, hn⟩ : ∃ n, n = y9.heap.size := ⟨_, rfl⟩
            rw [← hn] at hblk
            replace hblk := Lib.hid hblk
            replace hB := Lib.hid (hB.out.trans (hba.mono hB.out.size))
            replace ho3 := Lib.hid (row_below ho3.out hba)
            clear hba
            refine pm_l rfl (by kernel_rfl) ?_
            intro K hK
            go_simp
            rw [← hY, ← hn]
            refine hK _ _ (Chg.of_below hB.out) ?_
            clear hK K
            clear hY hn
            refine pm_two ?_ ?_
            · refine pm_l rfl (by kernel_rfl) ?_
              intro K hK
              refine wp_src _ (.tmp 50) (.tmp 52) 22 rfl wa1.heap.size 28 i0 (.agg #[.int .i64 0, .int .i64 0]) 2 16 Try.underlying22 hi.out hz0 hz1 hz2 rfl (by decide) v3 L.length (flatR L) rfl ho3.out (.slice (some ⟨nb, 0, none⟩) 1 1) 1 (⟨lo, hh⟩ : Rg).cells rfl (src_block hblk.out) (news_rg _) (by unfold maxLen; omega) (by omega) hB.out.size ?_
              intro v4 y11 ho4 hg4 hat4
              have hB4 : Below wa1.heap.size wa1 y11 := hB.out.grown hg4 hB.out.size (fun k hk => (ho3.out.lt k hk).1)
              have hd4 := Lib.hid (ownR_snoc rfl ho4).rd
              replace hB := Lib.hid hB4
              clear hB4 ho4 hg4 hat4
              clear ho3 hblk
              refine hK _ _ (Chg.of_below hB.out) ?_
              clear hK K
              refine pm_two ?_ ?_
              · refine pm_l rfl (by kernel_rfl) ?_
                intro K hK
                go_simp
                refine (xBest_any v4 (L ++ [⟨lo, hh⟩]) _ hd4.out hokM.out hlM.out).mono ?_
                rintro r y12 ⟨rfl, hba⟩
                rw [hmst.out]
                clear hd4
                replace hB := Lib.hid (hB.out.trans (hba.mono hB.out.size))
                clear hba
                refine hK _ _ (Chg.of_below hB.out) ?_
                clear hK K
                refine pm_q rfl ?_; go_big_quiet_step (fail); refine wpQuiet_nil ?_
                refine pm_q rfl ?_; go_big_quiet_step (fail); refine wpQuiet_nil ?_
                refine pm_q rfl ?_; go_big_quiet_step (fail); refine wpQuiet_nil ?_
                obtain ⟨y13, hY⟩ : ∃ Y, Y = y12.alloc (.cells #[.int .i64 0, .int .i64 0] 28) := ⟨_, rfl⟩
                have hba : Below y12.heap.size y12 y13 := hY ▸ (Below.refl _ _).alloc (Nat.le_refl _) _
                have hA : y13.heap[y12.heap.size]? = some (.cells #[.int .i64 0, .int .i64 0] 28 (0, 0)) := hY ▸ at_new _ _
                obtain ⟨nA, hn⟩ : ∃ n, n = y12.heap.size := ⟨_, rfl⟩
                rw [← hn] at hA
                replace hA := Lib.hid hA
                have hlA : wa1.heap.size ≤ nA := by have := hB.out.size; omega
                replace hB := Lib.hid (hB.out.trans (hba.mono hB.out.size))
                clear hba
                refine pm_l rfl (by kernel_rfl) ?_
                intro K hK
                go_simp
                rw [← hY, ← hn]
                refine hK _ _ (Chg.of_below hB.out) ?_
                clear hK K
                clear hY hn
                have hBs : Below wa1.heap.size wa1 ((y13.setCell ⟨nA, 0, none⟩ (.int .i64 ml)).setCell ⟨nA, 1, none⟩ (.int .i64 mh)) := (hB.out.setCell hlA _).setCell hlA _
                have p0 := cell_at hA.out 0
                have p1 := cell_at hA.out 1
                simp only [List.getElem?_toArray, List.getElem?_cons_zero, List.getElem?_cons_succ] at p0 p1
                have z0 := free_at hA.out 0
                have z1 := free_at hA.out 1
                have hAl := at_lt hA.out
                replace hBs := Lib.hid hBs
                refine pm_l rfl (by kernel_rfl) ?_
                intro K hK
                go_simp
                refine hK _ _ (Chg.of_below hBs.out) ?_
                clear hK K
                refine pm_q rfl ?_; go_big_quiet_step (fail); refine wpQuiet_nil ?_
                refine pm_fin ?_
                go_wp2_with fail
                go_meet
                exact ⟨rfl, hBs.out⟩
              · obtain ⟨y14, hY⟩ : ∃ Y, Y = y11.alloc (.cells #[.int .i64 0, .int .i64 0] 28) := ⟨_, rfl⟩
                have hba : Below y11.heap.size y11 y14 := hY ▸ (Below.refl _ _).alloc (Nat.le_refl _) _
                have hA : y14.heap[y11.heap.size]? = some (.cells #[.int .i64 0, .int .i64 0] 28 (0, 0)) := hY ▸ at_new _ _
                obtain ⟨nA, hn⟩ : ∃ n, n = y11.heap.size := ⟨_, rfl⟩
                rw [← hn] at hA
                replace hA := Lib.hid hA
                have hlA : wa1.heap.size ≤ nA := by have := hB.out.size; omega
                replace hB := Lib.hid (hB.out.trans (hba.mono hB.out.size))
                replace hd4 := Lib.hid (hd4.out.grow hba)
                clear hba
                refine pm_l rfl (by kernel_rfl) ?_
                intro K hK
                go_simp
                rw [← hY, ← hn]
                refine hK _ _ (Chg.of_below hB.out) ?_
                clear hK K
                clear hY hn
                refine pm_l rfl (by kernel_rfl) ?_
                intro K hK
                go_simp
                refine (xBest_any v4 (L ++ [⟨lo, hh⟩]) _ hd4.out hokM.out hlM.out).mono ?_
                rintro r y15 ⟨rfl, hba⟩
                rw [hmst.out]
                clear hd4
                replace hB := Lib.hid (hB.out.trans (hba.mono hB.out.size))
                replace hA := Lib.hid (at_below hA.out hba)
                clear hba
                refine hK _ _ (Chg.of_below hB.out) ?_
                clear hK K
                refine pm_q rfl ?_; go_big_quiet_step (fail); refine wpQuiet_nil ?_
                refine pm_q rfl ?_; go_big_quiet_step (fail); refine wpQuiet_nil ?_
                refine pm_q rfl ?_; go_big_quiet_step (fail); refine wpQuiet_nil ?_
                have hBs : Below wa1.heap.size wa1 ((y15.setCell ⟨nA, 0, none⟩ (.int .i64 ml)).setCell ⟨nA, 1, none⟩ (.int .i64 mh)) := (hB.out.setCell hlA _).setCell hlA _
                have p0 := cell_at hA.out 0
                have p1 := cell_at hA.out 1
                simp only [List.getElem?_toArray, List.getElem?_cons_zero, List.getElem?_cons_succ] at p0 p1
                have z0 := free_at hA.out 0
                have z1 := free_at hA.out 1
                have hAl := at_lt hA.out
                replace hBs := Lib.hid hBs
                refine pm_l rfl (by kernel_rfl) ?_
                intro K hK
                go_simp
                refine hK _ _ (Chg.of_below hBs.out) ?_
                clear hK K
                refine pm_q rfl ?_; go_big_quiet_step (fail); refine wpQuiet_nil ?_
                refine pm_fin ?_
                go_wp2_with fail
                go_meet
                exact ⟨rfl, hBs.out⟩
            · obtain ⟨y16, hY⟩ : ∃ Y, Y = y10.alloc (.cells #[.int .i64 0, .int .i64 0] 28) := ⟨_, rfl⟩
              have hba : Below y10.heap.size y10 y16 := hY ▸ (Below.refl _ _).alloc (Nat.le_refl _) _
              have hA : y16.heap[y10.heap.size]? = some (.cells #[.int .i64 0, .int .i64 0] 28 (0, 0)) := hY ▸ at_new _ _
              obtain ⟨nA, hn⟩ : ∃ n, n = y10.heap.size := ⟨_, rfl⟩
              rw [← hn] at hA
              replace hA := Lib.hid hA
              have hlA : wa1.heap.size ≤ nA := by have := hB.out.size; omega
              have hne : ∀ b, v3.ownBlock = some b → b ≠ nA := fun b e h => by have := (ho3.out.lt b e).2; omega
              replace hne := Lib.hid hne
              replace hB := Lib.hid (hB.out.trans (hba.mono hB.out.size))
              replace ho3 := Lib.hid (row_below ho3.out hba)
              replace hblk := Lib.hid (at_below hblk.out hba)
              clear hba
              refine pm_l rfl (by kernel_rfl) ?_
              intro K hK
              go_simp
              rw [← hY, ← hn]
              refine hK _ _ (Chg.of_below hB.out) ?_
              clear hK K
              clear hY hn
              refine pm_l rfl (by kernel_rfl) ?_
              intro K hK
              refine wp_src _ (.tmp 50) (.tmp 52) 22 rfl wa1.heap.size 28 i0 (.agg #[.int .i64 0, .int .i64 0]) 2 16 Try.underlying22 hi.out hz0 hz1 hz2 rfl (by decide) v3 L.length (flatR L) rfl ho3.out (.slice (some ⟨nb, 0, none⟩) 1 1) 1 (⟨lo, hh⟩ : Rg).cells rfl (src_block hblk.out) (news_rg _) (by unfold maxLen; omega) (by omega) hB.out.size ?_
              intro v4 y17 ho4 hg4 hat4
              have hB4 : Below wa1.heap.size wa1 y17 := hB.out.grown hg4 hB.out.size (fun k hk => (ho3.out.lt k hk).1)
              have hd4 := Lib.hid (ownR_snoc rfl ho4).rd
              have hA4 : y17.heap[nA]? = some (.cells #[.int .i64 0, .int .i64 0] 28 (0, 0)) := by rw [hg4.block nA (at_lt hA.out) (fun e => hne.out nA e.symm rfl)]; exact hA.out
              replace hA := Lib.hid hA4
              clear hA4 hne
              replace hB := Lib.hid hB4
              clear hB4 ho4 hg4 hat4
              clear ho3 hblk
              refine hK _ _ (Chg.of_below hB.out) ?_
              clear hK K
              refine pm_l rfl (by kernel_rfl) ?_
              intro K hK
              go_simp
              refine (xBest_any v4 (L ++ [⟨lo, hh⟩]) _ hd4.out hokM.out hlM.out).mono ?_
              rintro r y18 ⟨rfl, hba⟩
              rw [hmst.out]
              clear hd4
              replace hB := Lib.hid (hB.out.trans (hba.mono hB.out.size))
              replace hA := Lib.hid (at_below hA.out hba)
              clear hba
              refine hK _ _ (Chg.of_below hB.out) ?_
              clear hK K
              refine pm_q rfl ?_; go_big_quiet_step (fail); refine wpQuiet_nil ?_
              refine pm_q rfl ?_; go_big_quiet_step (fail); refine wpQuiet_nil ?_
              refine pm_q rfl ?_; go_big_quiet_step (fail); refine wpQuiet_nil ?_
              have hBs : Below wa1.heap.size wa1 ((y18.setCell ⟨nA, 0, none⟩ (.int .i64 ml)).setCell ⟨nA, 1, none⟩ (.int .i64 mh)) := (hB.out.setCell hlA _).setCell hlA _
              have p0 := cell_at hA.out 0
              have p1 := cell_at hA.out 1
              simp only [List.getElem?_toArray, List.getElem?_cons_zero, List.getElem?_cons_succ] at p0 p1
              have z0 := free_at hA.out 0
              have z1 := free_at hA.out 1
              have hAl := at_lt hA.out
              replace hBs := Lib.hid hBs
              refine pm_l rfl (by kernel_rfl) ?_
              intro K hK
              go_simp
              refine hK _ _ (Chg.of_below hBs.out) ?_
              clear hK K
              refine pm_q rfl ?_; go_big_quiet_step (fail); refine wpQuiet_nil ?_
              refine pm_fin ?_
              go_wp2_with fail
              go_meet
              exact ⟨rfl, hBs.out⟩
          · obtain ⟨y19, hY⟩ : ∃ Y, Y = y9.alloc (.cells #[.int .i64 0, .int .i64 0] 28) := ⟨_, rfl⟩
            have hba : Below y9.heap.size y9 y19 := hY ▸ (Below.refl _ _).alloc (Nat.le_refl _) _
            have hA : y19.heap[y9.heap.size]? = some (.cells #[.int .i64 0, .int .i64 0] 28 (0, 0)) := hY ▸ at_new _ _
            obtain ⟨nA, hn⟩ : ∃ n, n = y9.heap.size := ⟨_, rfl⟩
            rw [← hn] at hA
            replace hA := Lib.hid hA
            have hlA : wa1.heap.size ≤ nA := by have := hB.out.size; omega
            have hne : ∀ b, v3.ownBlock = some b → b ≠ nA := fun b e h => by have := (ho3.out.lt b e).2; omega
            replace hne := Lib.hid hne
            replace hB := Lib.hid (hB.out.trans (hba.mono hB.out.size))
            replace ho3 := Lib.hid (row_below ho3.out hba)
            clear hba
            refine pm_l rfl (by kernel_rfl) ?_
            intro K hK
            go_simp
            rw [← hY, ← hn]
            refine hK _ _ (Chg.of_below hB.out) ?_
            clear hK K
            clear hY hn
            obtain ⟨y20, hY⟩ : ∃ Y, Y = y19.alloc (.cells #[.int .i64 lo, .int .i64 hh] 28) := ⟨_, rfl⟩
            have hba : Below y19.heap.size y19 y20 := hY ▸ (Below.refl _ _).alloc (Nat.le_refl _) _
            have hblk : y20.heap[y19.heap.size]? = some (.cells #[.int .i64 lo, .int .i64 hh] 28 (0, 0)) := hY ▸ at_new _ _
            obtain ⟨nb, hn⟩ : ∃ n, n = y19.heap.size := ⟨_, rfl⟩
            rw [← hn] at hblk
            replace hblk := Lib.hid hblk
            replace hB := Lib.hid (hB.out.trans (hba.mono hB.out.size))
            replace ho3 := Lib.hid (row_below ho3.out hba)
            replace hA := Lib.hid (at_below hA.out hba)
            clear hba
            refine pm_l rfl (by kernel_rfl) ?_
            intro K hK
            go_simp
            rw [← hY, ← hn]
            refine hK _ _ (Chg.of_below hB.out) ?_
            clear hK K
            clear hY hn
            refine pm_l rfl (by kernel_rfl) ?_
            intro K hK
            refine wp_src _ (.tmp 50) (.tmp 52) 22 rfl wa1.heap.size 28 i0 (.agg #[.int .i64 0, .int .i64 0]) 2 16 Try.underlying22 hi.out hz0 hz1 hz2 rfl (by decide) v3 L.length (flatR L) rfl ho3.out (.slice (some ⟨nb, 0, none⟩) 1 1) 1 (⟨lo, hh⟩ : Rg).cells rfl (src_block hblk.out) (news_rg _) (by unfold maxLen; omega) (by omega) hB.out.size ?_
            intro v4 y21 ho4 hg4 hat4
            have hB4 : Below wa1.heap.size wa1 y21 := hB.out.grown hg4 hB.out.size (fun k hk => (ho3.out.lt k hk).1)
            have hd4 := Lib.hid (ownR_snoc rfl ho4).rd
            have hA4 : y21.heap[nA]? = some (.cells #[.int .i64 0, .int .i64 0] 28 (0, 0)) := by rw [hg4.block nA (at_lt hA.out) (fun e => hne.out nA e.symm rfl)]; exact hA.out
            replace hA := Lib.hid hA4
            clear hA4 hne
            replace hB := Lib.hid hB4
            clear hB4 ho4 hg4 hat4
            clear ho3 hblk
            refine hK _ _ (Chg.of_below hB.out) ?_
            clear hK K
            refine pm_l rfl (by kernel_rfl) ?_
            intro K hK
            go_simp
            refine (xBest_any v4 (L ++ [⟨lo, hh⟩]) _ hd4.out hokM.out hlM.out).mono ?_
            rintro r y22 ⟨rfl, hba⟩
            rw [hmst.out]
            clear hd4
            replace hB := Lib.hid (hB.out.trans (hba.mono hB.out.size))
            replace hA := Lib.hid (at_below hA.out hba)
            clear hba
            refine hK _ _ (Chg.of_below hB.out) ?_
            clear hK K
            refine pm_q rfl ?_; go_big_quiet_step (fail); refine wpQuiet_nil ?_
            refine pm_q rfl ?_; go_big_quiet_step (fail); refine wpQuiet_nil ?_
            refine pm_q rfl ?_; go_big_quiet_step (fail); refine wpQuiet_nil ?_
            have hBs : Below wa1.heap.size wa1 ((y22.setCell ⟨nA, 0, none⟩ (.int .i64 ml)).setCell ⟨nA, 1, none⟩ (.int .i64 mh)) := (hB.out.setCell hlA _).setCell hlA _
            have p0 := cell_at hA.out 0
            have p1 := cell_at hA.out 1
            simp only [List.getElem?_toArray, List.getElem?_cons_zero, List.getElem?_cons_succ] at p0 p1
            have z0 := free_at hA.out 0
            have z1 := free_at hA.out 1
            have hAl := at_lt hA.out
            replace hBs := Lib.hid hBs
            refine pm_l rfl (by kernel_rfl) ?_
            intro K hK
            go_simp
            refine hK _ _ (Chg.of_below hBs.out) ?_
            clear hK K
            refine pm_q rfl ?_; go_big_quiet_step (fail); refine wpQuiet_nil ?_
            refine pm_fin ?_
            go_wp2_with fail
            go_meet
            exact ⟨rfl, hBs.out⟩
        · obtain ⟨y23, hY⟩ : ∃ Y, Y = y0.alloc (.cells #[.int .i64 lo, .int .i64 hh] 28) := ⟨_, rfl⟩
          have hba : Below y0.heap.size y0 y23 := hY ▸ (Below.refl _ _).alloc (Nat.le_refl _) _
          have hblk : y23.heap[y0.heap.size]? = some (.cells #[.int .i64 lo, .int .i64 hh] 28 (0, 0)) := hY ▸ at_new _ _
          obtain ⟨nb, hn⟩ : ∃ n, n = y0.heap.size := ⟨_, rfl⟩
          rw [← hn] at hblk
          replace hblk := Lib.hid hblk
          replace hB := Lib.hid (hB.out.trans (hba.mono hB.out.size))
          replace hsrc := Lib.hid (hsrc.out.below hba)
          clear hba
          refine pm_l rfl (by kernel_rfl) ?_
          intro K hK
          go_simp
          rw [← hY, ← hn]
          refine hK _ _ (Chg.of_below hB.out) ?_
          clear hK K
          clear hY hn
          refine pm_two ?_ ?_
          · refine pm_l rfl (by kernel_rfl) ?_
            intro K hK
            refine wp_src _ (.const (.slice none 0 0)) (.tmp 49) 22 rfl wa1.heap.size 28 i0 (.agg #[.int .i64 0, .int .i64 0]) 2 16 Try.underlying22 hi.out hz0 hz1 hz2 rfl (by decide) (.slice none 0 0) 0 [] rfl (World.ownsRow_nil _ _ _ _) v2 L.length (flatR L) rfl hsrc.out (flatR_one L) (by unfold maxLen; omega) (by omega) hB.out.size ?_
            intro v3 y24 ho3 hg3 hat3
            rw [Nat.zero_add, List.nil_append] at ho3
            have hba : Below y23.heap.size y23 y24 := (Below.refl _ _).grown hg3 (Nat.le_refl _) (fun k hk => by cases hk)
            have hat : ∀ b, v3.ownBlock = some b → b = y23.heap.size := fun b e => by
              rcases hat3 with h | h
              · rw [e] at h; cases h
              · rw [e] at h; injection h
            clear hat hat3 hg3
            clear hsrc
            replace hB := Lib.hid (hB.out.trans (hba.mono hB.out.size))
            replace hblk := Lib.hid (at_below hblk.out hba)
            clear hba
            replace ho3 := Lib.hid ho3
            refine hK _ _ (Chg.of_below hB.out) ?_
            clear hK K
            refine pm_two ?_ ?_
            · refine pm_l rfl (by kernel_rfl) ?_
              intro K hK
              refine wp_src _ (.tmp 50) (.tmp 52) 22 rfl wa1.heap.size 28 i0 (.agg #[.int .i64 0, .int .i64 0]) 2 16 Try.underlying22 hi.out hz0 hz1 hz2 rfl (by decide) v3 L.length (flatR L) rfl ho3.out (.slice (some ⟨nb, 0, none⟩) 1 1) 1 (⟨lo, hh⟩ : Rg).cells rfl (src_block hblk.out) (news_rg _) (by unfold maxLen; omega) (by omega) hB.out.size ?_
              intro v4 y25 ho4 hg4 hat4
              have hB4 : Below wa1.heap.size wa1 y25 := hB.out.grown hg4 hB.out.size (fun k hk => (ho3.out.lt k hk).1)
              have hd4 := Lib.hid (ownR_snoc rfl ho4).rd
              replace hB := Lib.hid hB4
              clear hB4 ho4 hg4 hat4
              clear ho3 hblk
              refine hK _ _ (Chg.of_below hB.out) ?_
              clear hK K
              refine pm_two ?_ ?_
              · refine pm_l rfl (by kernel_rfl) ?_
                intro K hK
                go_simp
                refine (xBest_any v4 (L ++ [⟨lo, hh⟩]) _ hd4.out hokM.out hlM.out).mono ?_
                rintro r y26 ⟨rfl, hba⟩
                rw [hmst.out]
                clear hd4
                replace hB := Lib.hid (hB.out.trans (hba.mono hB.out.size))
                clear hba
                refine hK _ _ (Chg.of_below hB.out) ?_
                clear hK K
                refine pm_q rfl ?_; go_big_quiet_step (fail); refine wpQuiet_nil ?_
                refine pm_q rfl ?_; go_big_quiet_step (fail); refine wpQuiet_nil ?_
                refine pm_q rfl ?_; go_big_quiet_step (fail); refine wpQuiet_nil ?_
                obtain ⟨y27, hY⟩ : ∃ Y, Y = y26.alloc (.cells #[.int .i64 0, .int .i64 0] 28) := ⟨_, rfl⟩
                have hba : Below y26.heap.size y26 y27 := hY ▸ (Below.refl _ _).alloc (Nat.le_refl _) _
                have hA : y27.heap[y26.heap.size]? = some (.cells #[.int .i64 0, .int .i64 0] 28 (0, 0)) := hY ▸ at_new _ _
                obtain ⟨nA, hn⟩ : ∃ n, n = y26.heap.size := ⟨_, rfl⟩
                rw [← hn] at hA
                replace hA := Lib.hid hA
                have hlA : wa1.heap.size ≤ nA := by have := hB.out.size; omega
                replace hB := Lib.hid (hB.out.trans (hba.mono hB.out.size))
                clear hba
                refine pm_l rfl (by kernel_rfl) ?_
                intro K hK
                go_simp
                rw [← hY, ← hn]
                refine hK _ _ (Chg.of_below hB.out) ?_
                clear hK K
                clear hY hn
                have hBs : Below wa1.heap.size wa1 ((y27.setCell ⟨nA, 0, none⟩ (.int .i64 ml)).setCell ⟨nA, 1, none⟩ (.int .i64 mh)) := (hB.out.setCell hlA _).setCell hlA _
                have p0 := cell_at hA.out 0
                have p1 := cell_at hA.out 1
                simp only [List.getElem?_toArray, List.getElem?_cons_zero, List.getElem?_cons_succ] at p0 p1
                have z0 := free_at hA.out 0
                have z1 := free_at hA.out 1
                have hAl := at_lt hA.out
                replace hBs := Lib.hid hBs
                refine pm_l rfl (by kernel_rfl) ?_
                intro K hK
                go_simp
                refine hK _ _ (Chg.of_below hBs.out) ?_
                clear hK K
                refine pm_q rfl ?_; go_big_quiet_step (fail); refine wpQuiet_nil ?_
                refine pm_fin ?_
                go_wp2_with fail
                go_meet
                exact ⟨rfl, hBs.out⟩
              · obtain ⟨y28, hY⟩ : ∃ Y, Y = y25.alloc (.cells #[.int .i64 0, .int .i64 0] 28) := ⟨_, rfl⟩
                have hba : Below y25.heap.size y25 y28 := hY ▸ (Below.refl _ _).alloc (Nat.le_refl _) _
                have hA : y28.heap[y25.heap.size]? = some (.cells #[.int .i64 0, .int .i64 0] 28 (0, 0)) := hY ▸ at_new _ _
                obtain ⟨nA, hn⟩ : ∃ n, n = y25.heap.size := ⟨_, rfl⟩
                rw [← hn] at hA
                replace hA := Lib.hid hA
                have hlA : wa1.heap.size ≤ nA := by have := hB.out.size; omega
                replace hB := Lib.hid (hB.out.trans (hba.mono hB.out.size))
                replace hd4 := Lib.hid (hd4.out.grow hba)
                clear hba
                refine pm_l rfl (by kernel_rfl) ?_
                intro K hK
                go_simp
                rw [← hY, ← hn]
                refine hK _ _ (Chg.of_below hB.out) ?_
                clear hK K
                clear hY hn
                refine pm_l rfl (by kernel_rfl) ?_
                intro K hK
                go_simp
                refine (xBest_any v4 (L ++ [⟨lo, hh⟩]) _ hd4.out hokM.out hlM.out).mono ?_
                rintro r y29 ⟨rfl, hba⟩
                rw [hmst.out]
                clear hd4
                replace hB := Lib.hid (hB.out.trans (hba.mono hB.out.size))
                replace hA := Lib.hid (at_below hA.out hba)
                clear hba
                refine hK _ _ (Chg.of_below hB.out) ?_
                clear hK K
                refine pm_q rfl ?_; go_big_quiet_step (fail); refine wpQuiet_nil ?_
                refine pm_q rfl ?_; go_big_quiet_step (fail); refine wpQuiet_nil ?_
                refine pm_q rfl ?_; go_big_quiet_step (fail); refine wpQuiet_nil ?_
                have hBs : Below wa1.heap.size wa1 ((y29.setCell ⟨nA, 0, none⟩ (.int .i64 ml)).setCell ⟨nA, 1, none⟩ (.int .i64 mh)) := (hB.out.setCell hlA _).setCell hlA _
                have p0 := cell_at hA.out 0
                have p1 := cell_at hA.out 1
                simp only [List.getElem?_toArray, List.getElem?_cons_zero, List.getElem?_cons_succ] at p0 p1
                have z0 := free_at hA.out 0
                have z1 := free_at hA.out 1
                have hAl := at_lt hA.out
                replace hBs := Lib.hid hBs
                refine pm_l rfl (by kernel_rfl) ?_
                intro K hK
                go_simp
                refine hK _ _ (Chg.of_below hBs.out) ?_
                clear hK K
                refine pm_q rfl ?_; go_big_quiet_step (fail); refine wpQuiet_nil ?_
                refine pm_fin ?_
                go_wp2_with fail
                go_meet
                exact ⟨rfl, hBs.out⟩
            · obtain ⟨y30, hY⟩ : ∃ Y, Y = y24.alloc (.cells #[.int .i64 0, .int .i64 0] 28) := ⟨_, rfl⟩
              have hba : Below y24.heap.size y24 y30 := hY ▸ (Below.refl _ _).alloc (Nat.le_refl _) _
              have hA : y30.heap[y24.heap.size]? = some (.cells #[.int .i64 0, .int .i64 0] 28 (0, 0)) := hY ▸ at_new _ _
              obtain ⟨nA, hn⟩ : ∃ n, n = y24.heap.size := ⟨_, rfl⟩
              rw [← hn] at hA
              replace hA := Lib.hid hA
              have hlA : wa1.heap.size ≤ nA := by have := hB.out.size; omega
              have hne : ∀ b, v3.ownBlock = some b → b ≠ nA := fun b e h => by have := (ho3.out.lt b e).2; omega
              replace hne := Lib.hid hne
              replace hB := Lib.hid (hB.out.trans (hba.mono hB.out.size))
              replace hblk := Lib.hid (at_below hblk.out hba)
              replace ho3 := Lib.hid (row_below ho3.out hba)
              clear hba
              refine pm_l rfl (by kernel_rfl) ?_
              intro K hK
              go_simp
              rw [← hY, ← hn]
              refine hK _ _ (Chg.of_below hB.out) ?_
              clear hK K
              clear hY hn
              refine pm_l rfl (by kernel_rfl) ?_
              intro K hK
              refine wp_src _ (.tmp 50) (.tmp 52) 22 rfl wa1.heap.size 28 i0 (.agg #[.int .i64 0, .int .i64 0]) 2 16 Try.underlying22 hi.out hz0 hz1 hz2 rfl (by decide) v3 L.length (flatR L) rfl ho3.out (.slice (some ⟨nb, 0, none⟩) 1 1) 1 (⟨lo, hh⟩ : Rg).cells rfl (src_block hblk.out) (news_rg _) (by unfold maxLen; omega) (by omega) hB.out.size ?_
              intro v4 y31 ho4 hg4 hat4
              have hB4 : Below wa1.heap.size wa1 y31 := hB.out.grown hg4 hB.out.size (fun k hk => (ho3.out.lt k hk).1)
              have hd4 := Lib.hid (ownR_snoc rfl ho4).rd
              have hA4 : y31.heap[nA]? = some (.cells #[.int .i64 0, .int .i64 0] 28 (0, 0)) := by rw [hg4.block nA (at_lt hA.out) (fun e => hne.out nA e.symm rfl)]; exact hA.out
              replace hA := Lib.hid hA4
              clear hA4 hne
              replace hB := Lib.hid hB4
              clear hB4 ho4 hg4 hat4
              clear ho3 hblk
              refine hK _ _ (Chg.of_below hB.out) ?_
              clear hK K
              refine pm_l rfl (by kernel_rfl) ?_
              intro K hK
              go_simp
              refine (xBest_any v4 (L ++ [⟨lo, hh⟩]) _ hd4.out hokM.out hlM.out).mono ?_
              rintro r y32 ⟨rfl, hba⟩
              rw [hmst.out]
              clear hd4
              replace hB := Lib.hid (hB.out.trans (hba.mono hB.out.size))
              replace hA := Lib.hid (at_below hA.out hba)
              clear hba
              refine hK _ _ (Chg.of_below hB.out) ?_
              clear hK K
              refine pm_q rfl ?_; go_big_quiet_step (fail); refine wpQuiet_nil ?_
              refine pm_q rfl ?_; go_big_quiet_step (fail); refine wpQuiet_nil ?_
              refine pm_q rfl ?_; go_big_quiet_step (fail); refine wpQuiet_nil ?_
              have hBs : Below wa1.heap.size wa1 ((y32.setCell ⟨nA, 0, none⟩ (.int .i64 ml)).setCell ⟨nA, 1, none⟩ (.int .i64 mh)) := (hB.out.setCell hlA _).setCell hlA _
              have p0 := cell_at hA.out 0
              have p1 := cell_at hA.out 1
              simp only [List.getElem?_toArray, List.getElem?_cons_zero, List.getElem?_cons_succ] at p0 p1
              have z0 := free_at hA.out 0
              have z1 := free_at hA.out 1
              have hAl := at_lt hA.out
              replace hBs := Lib.hid hBs
              refine pm_l rfl (by kernel_rfl) ?_
              intro K hK
              go_simp
              refine hK _ _ (Chg.of_below hBs.out) ?_
              clear hK K
              refine pm_q rfl ?_; go_big_quiet_step (fail); refine wpQuiet_nil ?_
              refine pm_fin ?_
              go_wp2_with fail
              go_meet
              exact ⟨rfl, hBs.out⟩
          · obtain ⟨y33, hY⟩ : ∃ Y, Y = y23.alloc (.cells #[.int .i64 0, .int .i64 0] 28) := ⟨_, rfl⟩
            have hba : Below y23.heap.size y23 y33 := hY ▸ (Below.refl _ _).alloc (Nat.le_refl _) _
            have hA : y33.heap[y23.heap.size]? = some (.cells #[.int .i64 0, .int .i64 0] 28 (0, 0)) := hY ▸ at_new _ _
            obtain ⟨nA, hn⟩ : ∃ n, n = y23.heap.size := ⟨_, rfl⟩
            rw [← hn] at hA
            replace hA := Lib.hid hA
            have hlA : wa1.heap.size ≤ nA := by have := hB.out.size; omega
            replace hB := Lib.hid (hB.out.trans (hba.mono hB.out.size))
            replace hsrc := Lib.hid (hsrc.out.below hba)
            replace hblk := Lib.hid (at_below hblk.out hba)
            clear hba
            refine pm_l rfl (by kernel_rfl) ?_
            intro K hK
            go_simp
            rw [← hY, ← hn]
            refine hK _ _ (Chg.of_below hB.out) ?_
            clear hK K
            clear hY hn
            refine pm_l rfl (by kernel_rfl) ?_
            intro K hK
            refine wp_src _ (.const (.slice none 0 0)) (.tmp 49) 22 rfl wa1.heap.size 28 i0 (.agg #[.int .i64 0, .int .i64 0]) 2 16 Try.underlying22 hi.out hz0 hz1 hz2 rfl (by decide) (.slice none 0 0) 0 [] rfl (World.ownsRow_nil _ _ _ _) v2 L.length (flatR L) rfl hsrc.out (flatR_one L) (by unfold maxLen; omega) (by omega) hB.out.size ?_
            intro v3 y34 ho3 hg3 hat3
            rw [Nat.zero_add, List.nil_append] at ho3
            have hba : Below y33.heap.size y33 y34 := (Below.refl _ _).grown hg3 (Nat.le_refl _) (fun k hk => by cases hk)
            have hat : ∀ b, v3.ownBlock = some b → b = y33.heap.size := fun b e => by
              rcases hat3 with h | h
              · rw [e] at h; cases h
              · rw [e] at h; injection h
            have hne : ∀ b, v3.ownBlock = some b → b ≠ nA := fun b e h => by have := at_lt hA.out; have := hat b e; omega
            replace hne := Lib.hid hne
            clear hat hat3 hg3
            clear hsrc
            replace hB := Lib.hid (hB.out.trans (hba.mono hB.out.size))
            replace hblk := Lib.hid (at_below hblk.out hba)
            replace hA := Lib.hid (at_below hA.out hba)
            clear hba
            replace ho3 := Lib.hid ho3
            refine hK _ _ (Chg.of_below hB.out) ?_
            clear hK K
            refine pm_l rfl (by kernel_rfl) ?_
            intro K hK
            refine wp_src _ (.tmp 50) (.tmp 52) 22 rfl wa1.heap.size 28 i0 (.agg #[.int .i64 0, .int .i64 0]) 2 16 Try.underlying22 hi.out hz0 hz1 hz2 rfl (by decide) v3 L.length (flatR L) rfl ho3.out (.slice (some ⟨nb, 0, none⟩) 1 1) 1 (⟨lo, hh⟩ : Rg).cells rfl (src_block hblk.out) (news_rg _) (by unfold maxLen; omega) (by omega) hB.out.size ?_
            intro v4 y35 ho4 hg4 hat4
            have hB4 : Below wa1.heap.size wa1 y35 := hB.out.grown hg4 hB.out.size (fun k hk => (ho3.out.lt k hk).1)
            have hd4 := Lib.hid (ownR_snoc rfl ho4).rd
            have hA4 : y35.heap[nA]? = some (.cells #[.int .i64 0, .int .i64 0] 28 (0, 0)) := by rw [hg4.block nA (at_lt hA.out) (fun e => hne.out nA e.symm rfl)]; exact hA.out
            replace hA := Lib.hid hA4
            clear hA4 hne
            replace hB := Lib.hid hB4
            clear hB4 ho4 hg4 hat4
            clear ho3 hblk
            refine hK _ _ (Chg.of_below hB.out) ?_
            clear hK K
            refine pm_l rfl (by kernel_rfl) ?_
            intro K hK
            go_simp
            refine (xBest_any v4 (L ++ [⟨lo, hh⟩]) _ hd4.out hokM.out hlM.out).mono ?_
            rintro r y36 ⟨rfl, hba⟩
            rw [hmst.out]
            clear hd4
            replace hB := Lib.hid (hB.out.trans (hba.mono hB.out.size))
            replace hA := Lib.hid (at_below hA.out hba)
            clear hba
            refine hK _ _ (Chg.of_below hB.out) ?_
            clear hK K
            refine pm_q rfl ?_; go_big_quiet_step (fail); refine wpQuiet_nil ?_
            refine pm_q rfl ?_; go_big_quiet_step (fail); refine wpQuiet_nil ?_
            refine pm_q rfl ?_; go_big_quiet_step (fail); refine wpQuiet_nil ?_
            have hBs : Below wa1.heap.size wa1 ((y36.setCell ⟨nA, 0, none⟩ (.int .i64 ml)).setCell ⟨nA, 1, none⟩ (.int .i64 mh)) := (hB.out.setCell hlA _).setCell hlA _
            have p0 := cell_at hA.out 0
            have p1 := cell_at hA.out 1
            simp only [List.getElem?_toArray, List.getElem?_cons_zero, List.getElem?_cons_succ] at p0 p1
            have z0 := free_at hA.out 0
            have z1 := free_at hA.out 1
            have hAl := at_lt hA.out
            replace hBs := Lib.hid hBs
            refine pm_l rfl (by kernel_rfl) ?_
            intro K hK
            go_simp
            refine hK _ _ (Chg.of_below hBs.out) ?_
            clear hK K
            refine pm_q rfl ?_; go_big_quiet_step (fail); refine wpQuiet_nil ?_
            refine pm_fin ?_
            go_wp2_with fail
            go_meet
            exact ⟨rfl, hBs.out⟩
        · obtain ⟨y37, hY⟩ : ∃ Y, Y = y0.alloc (.cells #[.int .i64 0, .int .i64 0] 28) := ⟨_, rfl⟩
          have hba : Below y0.heap.size y0 y37 := hY ▸ (Below.refl _ _).alloc (Nat.le_refl _) _
          have hA : y37.heap[y0.heap.size]? = some (.cells #[.int .i64 0, .int .i64 0] 28 (0, 0)) := hY ▸ at_new _ _
          obtain ⟨nA, hn⟩ : ∃ n, n = y0.heap.size := ⟨_, rfl⟩
          rw [← hn] at hA
          replace hA := Lib.hid hA
          have hlA : wa1.heap.size ≤ nA := by have := hB.out.size; omega
          replace hB := Lib.hid (hB.out.trans (hba.mono hB.out.size))
          replace hsrc := Lib.hid (hsrc.out.below hba)
          clear hba
          refine pm_l rfl (by kernel_rfl) ?_
          intro K hK
          go_simp
          rw [← hY, ← hn]
          refine hK _ _ (Chg.of_below hB.out) ?_
          clear hK K
          clear hY hn
          refine pm_two ?_ ?_
          · refine pm_l rfl (by kernel_rfl) ?_
            intro K hK
            refine wp_src _ (.const (.slice none 0 0)) (.tmp 49) 22 rfl wa1.heap.size 28 i0 (.agg #[.int .i64 0, .int .i64 0]) 2 16 Try.underlying22 hi.out hz0 hz1 hz2 rfl (by decide) (.slice none 0 0) 0 [] rfl (World.ownsRow_nil _ _ _ _) v2 L.length (flatR L) rfl hsrc.out (flatR_one L) (by unfold maxLen; omega) (by omega) hB.out.size ?_
            intro v3 y38 ho3 hg3 hat3
            rw [Nat.zero_add, List.nil_append] at ho3
            have hba : Below y37.heap.size y37 y38 := (Below.refl _ _).grown hg3 (Nat.le_refl _) (fun k hk => by cases hk)
            have hat : ∀ b, v3.ownBlock = some b → b = y37.heap.size := fun b e => by
              rcases hat3 with h | h
              · rw [e] at h; cases h
              · rw [e] at h; injection h
            have hne : ∀ b, v3.ownBlock = some b → b ≠ nA := fun b e h => by have := at_lt hA.out; have := hat b e; omega
            replace hne := Lib.hid hne
            clear hat hat3 hg3
            clear hsrc
            replace hB := Lib.hid (hB.out.trans (hba.mono hB.out.size))
            replace hA := Lib.hid (at_below hA.out hba)
            clear hba
            replace ho3 := Lib.hid ho3
            refine hK _ _ (Chg.of_below hB.out) ?_
            clear hK K
            obtain ⟨y39, hY⟩ : ∃ Y, Y = y38.alloc (.cells #[.int .i64 lo, .int .i64 hh] 28) := ⟨_, rfl⟩
            have hba : Below y38.heap.size y38 y39 := hY ▸ (Below.refl _ _).alloc (Nat.le_refl _) _
            have hblk : y39.heap[y38.heap.size]? = some (.cells #[.int .i64 lo, .int .i64 hh] 28 (0, 0)) := hY ▸ at_new _ _
            obtain ⟨nb, hn⟩ : ∃ n, n = y38.heap.size := ⟨_, rfl⟩
            rw [← hn] at hblk
            replace hblk := Lib.hid hblk
            replace hB := Lib.hid (hB.out.trans (hba.mono hB.out.size))
            replace hA := Lib.hid (at_below hA.out hba)
            replace ho3 := Lib.hid (row_below ho3.out hba)
            clear hba
            refine pm_l rfl (by kernel_rfl) ?_
            intro K hK
            go_simp
            rw [← hY, ← hn]
            refine hK _ _ (Chg.of_below hB.out) ?_
            clear hK K
            clear hY hn
            refine pm_l rfl (by kernel_rfl) ?_
            intro K hK
            refine wp_src _ (.tmp 50) (.tmp 52) 22 rfl wa1.heap.size 28 i0 (.agg #[.int .i64 0, .int .i64 0]) 2 16 Try.underlying22 hi.out hz0 hz1 hz2 rfl (by decide) v3 L.length (flatR L) rfl ho3.out (.slice (some ⟨nb, 0, none⟩) 1 1) 1 (⟨lo, hh⟩ : Rg).cells rfl (src_block hblk.out) (news_rg _) (by unfold maxLen; omega) (by omega) hB.out.size ?_
            intro v4 y40 ho4 hg4 hat4
            have hB4 : Below wa1.heap.size wa1 y40 := hB.out.grown hg4 hB.out.size (fun k hk => (ho3.out.lt k hk).1)
            have hd4 := Lib.hid (ownR_snoc rfl ho4).rd
            have hA4 : y40.heap[nA]? = some (.cells #[.int .i64 0, .int .i64 0] 28 (0, 0)) := by rw [hg4.block nA (at_lt hA.out) (fun e => hne.out nA e.symm rfl)]; exact hA.out
            replace hA := Lib.hid hA4
            clear hA4 hne
            replace hB := Lib.hid hB4
            clear hB4 ho4 hg4 hat4
            clear ho3 hblk
            refine hK _ _ (Chg.of_below hB.out) ?_
            clear hK K
            refine pm_l rfl (by kernel_rfl) ?_
            intro K hK
            go_simp
            refine (xBest_any v4 (L ++ [⟨lo, hh⟩]) _ hd4.out hokM.out hlM.out).mono ?_
            rintro r y41 ⟨rfl, hba⟩
            rw [hmst.out]
            clear hd4
            replace hB := Lib.hid (hB.out.trans (hba.mono hB.out.size))
            replace hA := Lib.hid (at_below hA.out hba)
            clear hba
            refine hK _ _ (Chg.of_below hB.out) ?_
            clear hK K
            refine pm_q rfl ?_; go_big_quiet_step (fail); refine wpQuiet_nil ?_
            refine pm_q rfl ?_; go_big_quiet_step (fail); refine wpQuiet_nil ?_
            refine pm_q rfl ?_; go_big_quiet_step (fail); refine wpQuiet_nil ?_
            have hBs : Below wa1.heap.size wa1 ((y41.setCell ⟨nA, 0, none⟩ (.int .i64 ml)).setCell ⟨nA, 1, none⟩ (.int .i64 mh)) := (hB.out.setCell hlA _).setCell hlA _
            have p0 := cell_at hA.out 0
            have p1 := cell_at hA.out 1
            simp only [List.getElem?_toArray, List.getElem?_cons_zero, List.getElem?_cons_succ] at p0 p1
            have z0 := free_at hA.out 0
            have z1 := free_at hA.out 1
            have hAl := at_lt hA.out
            replace hBs := Lib.hid hBs
            refine pm_l rfl (by kernel_rfl) ?_
            intro K hK
            go_simp
            refine hK _ _ (Chg.of_below hBs.out) ?_
            clear hK K
            refine pm_q rfl ?_; go_big_quiet_step (fail); refine wpQuiet_nil ?_
            refine pm_fin ?_
            go_wp2_with fail
            go_meet
            exact ⟨rfl, hBs.out⟩
          · obtain ⟨y42, hY⟩ : ∃ Y, Y = y37.alloc (.cells #[.int .i64 lo, .int .i64 hh] 28) := ⟨_, rfl⟩
            have hba : Below y37.heap.size y37 y42 := hY ▸ (Below.refl _ _).alloc (Nat.le_refl _) _
            have hblk : y42.heap[y37.heap.size]? = some (.cells #[.int .i64 lo, .int .i64 hh] 28 (0, 0)) := hY ▸ at_new _ _
            obtain ⟨nb, hn⟩ : ∃ n, n = y37.heap.size := ⟨_, rfl⟩
            rw [← hn] at hblk
            replace hblk := Lib.hid hblk
            replace hB := Lib.hid (hB.out.trans (hba.mono hB.out.size))
            replace hsrc := Lib.hid (hsrc.out.below hba)
            replace hA := Lib.hid (at_below hA.out hba)
            clear hba
            refine pm_l rfl (by kernel_rfl) ?_
            intro K hK
            go_simp
            rw [← hY, ← hn]
            refine hK _ _ (Chg.of_below hB.out) ?_
            clear hK K
            clear hY hn
            refine pm_l rfl (by kernel_rfl) ?_
            intro K hK
            refine wp_src _ (.const (.slice none 0 0)) (.tmp 49) 22 rfl wa1.heap.size 28 i0 (.agg #[.int .i64 0, .int .i64 0]) 2 16 Try.underlying22 hi.out hz0 hz1 hz2 rfl (by decide) (.slice none 0 0) 0 [] rfl (World.ownsRow_nil _ _ _ _) v2 L.length (flatR L) rfl hsrc.out (flatR_one L) (by unfold maxLen; omega) (by omega) hB.out.size ?_
            intro v3 y43 ho3 hg3 hat3
            rw [Nat.zero_add, List.nil_append] at ho3
            have hba : Below y42.heap.size y42 y43 := (Below.refl _ _).grown hg3 (Nat.le_refl _) (fun k hk => by cases hk)
            have hat : ∀ b, v3.ownBlock = some b → b = y42.heap.size := fun b e => by
              rcases hat3 with h | h
              · rw [e] at h; cases h
              · rw [e] at h; injection h
            have hne : ∀ b, v3.ownBlock = some b → b ≠ nA := fun b e h => by have := at_lt hA.out; have := hat b e; omega
            replace hne := Lib.hid hne
            clear hat hat3 hg3
            clear hsrc
            replace hB := Lib.hid (hB.out.trans (hba.mono hB.out.size))
            replace hA := Lib.hid (at_below hA.out hba)
            replace hblk := Lib.hid (at_below hblk.out hba)
            clear hba
            replace ho3 := Lib.hid ho3
            refine hK _ _ (Chg.of_below hB.out) ?_
            clear hK K
            refine pm_l rfl (by kernel_rfl) ?_
            intro K hK
            refine wp_src _ (.tmp 50) (.tmp 52) 22 rfl wa1.heap.size 28 i0 (.agg #[.int .i64 0, .int .i64 0]) 2 16 Try.underlying22 hi.out hz0 hz1 hz2 rfl (by decide) v3 L.length (flatR L) rfl ho3.out (.slice (some ⟨nb, 0, none⟩) 1 1) 1 (⟨lo, hh⟩ : Rg).cells rfl (src_block hblk.out) (news_rg _) (by unfold maxLen; omega) (by omega) hB.out.size ?_
            intro v4 y44 ho4 hg4 hat4
            have hB4 : Below wa1.heap.size wa1 y44 := hB.out.grown hg4 hB.out.size (fun k hk => (ho3.out.lt k hk).1)
            have hd4 := Lib.hid (ownR_snoc rfl ho4).rd
            have hA4 : y44.heap[nA]? = some (.cells #[.int .i64 0, .int .i64 0] 28 (0, 0)) := by rw [hg4.block nA (at_lt hA.out) (fun e => hne.out nA e.symm rfl)]; exact hA.out
            replace hA := Lib.hid hA4
            clear hA4 hne
            replace hB := Lib.hid hB4
            clear hB4 ho4 hg4 hat4
            clear ho3 hblk
            refine hK _ _ (Chg.of_below hB.out) ?_
            clear hK K
            refine pm_l rfl (by kernel_rfl) ?_
            intro K hK
            go_simp
            refine (xBest_any v4 (L ++ [⟨lo, hh⟩]) _ hd4.out hokM.out hlM.out).mono ?_
            rintro r y45 ⟨rfl, hba⟩
            rw [hmst.out]
            clear hd4
            replace hB := Lib.hid (hB.out.trans (hba.mono hB.out.size))
            replace hA := Lib.hid (at_below hA.out hba)
            clear hba
            refine hK _ _ (Chg.of_below hB.out) ?_
            clear hK K
            refine pm_q rfl ?_; go_big_quiet_step (fail); refine wpQuiet_nil ?_
            refine pm_q rfl ?_; go_big_quiet_step (fail); refine wpQuiet_nil ?_
            refine pm_q rfl ?_; go_big_quiet_step (fail); refine wpQuiet_nil ?_
            have hBs : Below wa1.heap.size wa1 ((y45.setCell ⟨nA, 0, none⟩ (.int .i64 ml)).setCell ⟨nA, 1, none⟩ (.int .i64 mh)) := (hB.out.setCell hlA _).setCell hlA _
            have p0 := cell_at hA.out 0
            have p1 := cell_at hA.out 1
            simp only [List.getElem?_toArray, List.getElem?_cons_zero, List.getElem?_cons_succ] at p0 p1
            have z0 := free_at hA.out 0
            have z1 := free_at hA.out 1
            have hAl := at_lt hA.out
            replace hBs := Lib.hid hBs
            refine pm_l rfl (by kernel_rfl) ?_
            intro K hK
            go_simp
            refine hK _ _ (Chg.of_below hBs.out) ?_
            clear hK K
            refine pm_q rfl ?_; go_big_quiet_step (fail); refine wpQuiet_nil ?_
            refine pm_fin ?_
            go_wp2_with fail
            go_meet
            exact ⟨rfl, hBs.out⟩
      case rest =>
        obtain ⟨rfl, hbx⟩ := hcut
        clear f0 f1
        replace hB := Lib.hid (hB.out.trans (hbx.mono hB.out.size))
        replace hx0 := Lib.hid (at_below hx0.out hbx)
        replace hr2 := Lib.hid (hr2.out.grow hbx)
        clear hbx
        have f0 := cell_at hx0.out 0
        have f1 := cell_at hx0.out 1
        simp only [List.getElem?_toArray, List.getElem?_cons_zero, List.getElem?_cons_succ] at f0 f1
        have hcm' := hcm.out
        have e3 : (m : Int) ≥ (n : Int) := by have := hm1.out; omega
        have e4 : (m : Int) ≤ (n : Int) + 1 := by have := hm2.out; omega
        have hn13 : n ≤ 100 := by
          have := hbst.out
          rcases Nat.eq_zero_or_pos n with h0 | h0
          · omega
          · have hS := best_spec L hok2
            rw [this] at hS
            have e := hS.same h0 bl (Int.le_refl _) (hS.rng h0).2.2
            dsimp only at e
            have := cntR_le L bl
            omega
        cases inb with
        | true =>
          rw [if_pos rfl] at hcm'
          have e1 : ((b : Int) == (a : Int) + 1) = true := by simp; omega
          have e2 : ((b : Int) == (a : Int)) = false := by simp; omega
          clear hcm'
          go_wp2
          go_ret
          exact ⟨rfl, hB.out⟩
        | false =>
          rw [if_neg (by simp)] at hcm'
          have e1 : ((b : Int) == (a : Int) + 1) = false := by simp; omega
          have e2 : ((b : Int) == (a : Int)) = true := by simp; omega
          clear hcm'
          go_wp2
          go_ret
          exact ⟨rfl, hB.out⟩

/-! the row's step, written out by law.py -/
set_option maxRecDepth 100000 in
theorem lifted (os : Os) (started : os.Started) (H : Type) (enc : TypeId × Value → H) :
    ReturnsInHanded {} Try.checked os 7 .any (Rows.crossMoreSpec.pre6 enc Try.prog Try.f7 Rows.crossMoreRow.domain false) (Rows.crossMoreSpec.post enc Try.prog Try.f7 false true false false) := by
  refine returnsInHanded_of_change (C := Try.checked) own started (by kernel_rfl) Try.func7
    (ChangeSpec.witness6 (enc := enc) (C := Try.checked) false ⟨#[], #[.slice none 0 0, .agg #[.int .i64 0, .int .i64 0], .int .i64 0], []⟩ 8 (by kernel_rfl) (by kernel_rfl) (by kernel_rfl) (by kernel_rfl)) ?_
  intro W base args ds gs before hval0 hW hcnd _
  have hval : ∀ (j : Nat) t v, Try.f7.params[j]? = some t → args[j]? = some v → Value.okWide Try.prog W .any base t v := hval0
  have hW' := hW
  obtain ⟨p, q, hA0, hV, rfl, hfz, hnd⟩ := hW
  have hA : DataW.TrodAll enc Try.prog W 0 (fun _ => true) true Try.f7.params.toList args.toList ds p := hA0
  rw [Try.params7] at hA hval
  obtain ⟨v0, vs0, d0, ds0, p0, q0, hargs, rfl, rfl, h0, r0⟩ := trodAll_cons hA
  obtain ⟨v1, vs1, d1, ds1, p1, q1, rfl, rfl, rfl, h1, r1⟩ := trodAll_cons r0
  obtain ⟨v2, vs2, d2, ds2, p2, q2, rfl, rfl, rfl, h2, r2⟩ := trodAll_cons r1
  obtain ⟨rfl, rfl, rfl⟩ := trodAll_nil r2
  obtain rfl : args = #[v0, v1, v2] := by cases args; simp_all
  obtain ⟨rfl, rfl⟩ := trodVars_none hV
  have k0 := h0
  have lt0 : ∀ x ∈ p0, x.block < W.heap.size := by obtain ⟨m, hm⟩ := k0; exact DataW.trod_lt m _ _ _ hm
  have k1 := h1
  have lt1 : ∀ x ∈ p1, x.block < W.heap.size := by obtain ⟨m, hm⟩ := k1; exact DataW.trod_lt m _ _ _ hm
  have k2 := h2
  have lt2 : ∀ x ∈ p2, x.block < W.heap.size := by obtain ⟨m, hm⟩ := k2; exact DataW.trod_lt m _ _ _ hm
  obtain ⟨l0, w0, b0⟩ := slrange_open (hval 0 22 v0 rfl rfl) h0
  obtain ⟨l1, w1, b1⟩ := range_open (hval 1 28 v1 rfl rfl) h1
  obtain ⟨a2, rfl, rfl, rfl, w2⟩ := open_int Try.underlying2 (hval 2 2 v2 rfl rfl) h2
  have w2 := bounds_i64 w2
  clear hA0 hval0
  simp only [List.append_nil] at hW'
  refine (walk v0 l0 v1 l1 a2 W w0 b0 w1 b1 w2).mono fun e W' ⟨he, bel⟩ => ?_
  subst he
  exact ⟨_, rfl, _, _, _, [], _, [], hW', trodAll_mk1 (shut_bool Try.underlying4 _), (trodAll_cons_mk (Below.trod laidOut (by kernel_rfl) (of_decide_eq_true (by kernel_rfl)) k0 bel lt0) (trodAll_cons_mk (Below.trod laidOut (by kernel_rfl) (of_decide_eq_true (by kernel_rfl)) k1 bel lt1) (trodAll_cons_mk (Below.trod laidOut (by kernel_rfl) (of_decide_eq_true (by kernel_rfl)) k2 bel lt2) trodAll_mk0))), rfl, bel.frame _, fun h => by cases h⟩

theorem over : Rows.crossMoreRow.holds Try.pinned (OpenSpec.ofChange Rows.crossMoreSpec) :=
  OpenClaim.holds_of_wide 7 Try.f7 rfl rfl rfl rfl rfl rfl rfl ⟨rfl, rfl, rfl, rfl, rfl⟩ rfl rfl rfl rfl rfl (by kernel_rfl) Try.func7 (by kernel_rfl)
    (of_decide_eq_true (by kernel_rfl)) (by unfold Func.isWrapper; first | (rw [if_pos (by decide +kernel)]; kernel_rfl) | (rw [if_neg (by decide +kernel)]; exact ⟨rfl, rfl⟩))
    (fun os started H enc _ => lifted os started H enc)

theorem proved : Rows.CrossMoreSaid := over
end Go.Proofs.Ytimffflhfaiakaa.lawCrossMore
