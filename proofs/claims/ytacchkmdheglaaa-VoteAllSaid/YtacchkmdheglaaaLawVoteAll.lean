/- Votes are gathered, each process's first one; when most voted the best one is told: for all votes; no condition. -/
import Derived.Test.YtacchkmdheglaaaVtV
import Derived.Test.YtacchkmdheglaaaVtU
namespace Go.Proofs.Ytacchkmdheglaaa.lawVoteAll
open Go.ChangeShapes Go.WideShapes Go.ChangeAt Go.RowKit
set_option linter.unusedVariables false

/-- the reference's Add -/
theorem rAdd_v2 {A : Nat → Prop} {w y : World} {b1 b2 : Nat} {view n : Int} {lp lr : List VtS} (hV : VV 78 47 45 51 A w y b1 b2 view n lp lr) (hg : goodV lr) (hw : w.heap.size ≤ y.heap.size) (x : Vt) (s : Value) (hs : rdE y s x.lg) (hsA : ∀ k, s.ownBlock = some k → A k) (hl : lr.length ≤ 100) :
    Calls Try.prog 23 #[.pointer (some ⟨b2, 0, none⟩), x.val s] y fun r y' => r = .returned (.bool (okV view n lr x)) ∧
      ∃ lr', VV 78 47 45 51 A w y' b1 b2 view n lp lr' ∧ (lr'.map fun y => y.v) = (lr.map fun y => y.v) ++ (if okV view n lr x then [x] else []) ∧ Chg (Rest A w) y y' := by
  obtain ⟨F1, D1, F2, D2, h1, h2, h3, hA, h4, h5⟩ := hV
  refine (r19Add_any b2 view n lr x s F2 D2 y h5 (fun k hk => (h1 k (.inr (.inr hk))).2) hg hs (fun k hk => ⟨(hA k (hsA k hk)).2.1, (hA k (hsA k hk)).2.2.2⟩) hl).mono ?_
  rintro r y' ⟨rfl, h⟩
  obtain ⟨lr', F', D', g1, g2, g3, g4, g5⟩ := added_any h5 h
  have hsz := g5.size
  have a1 := fun k hk => h1 k (.inl hk)
  have a2 := fun k hk => h1 k (.inr (.inl hk))
  have a3 := fun k hk => h1 k (.inr (.inr (.inl hk)))
  have a4 := fun k hk => h1 k (.inr (.inr (.inr hk)))
  refine ⟨rfl, lr', ⟨F1, D1, F', D', ?_, ?_, ?_, ?_, h4.chg g5 (fun k hk f => (h2 k hk).1 f) (fun k hk f => h3 k f hk), g1⟩, g2, g5.mono fun k hk f => ⟨(a3 k f).1, fun a => (hA k a).2.1 f⟩⟩
  · rintro k (hk | hk | hk | hk)
    · have := a1 k hk; omega
    · have := a2 k hk; omega
    · rcases g3 k hk with f | f
      · have := a3 k f; omega
      · omega
    · rcases g4 k hk with f | f | f
      · have := a4 k f; omega
      · omega
      · have := hA k (hsA k f.2); omega
  · intro k hk
    refine ⟨fun f => ?_, fun f => ?_⟩
    · rcases g3 k f with f | f
      · exact (h2 k hk).1 f
      · have := a1 k hk; omega
    · rcases g4 k f with f | f | f
      · exact (h2 k hk).2 f
      · have := a1 k hk; omega
      · exact (hA k (hsA k f.2)).1 hk
  · intro k hk g
    rcases g3 k hk with f | f
    · exact h3 k f g
    · have := a2 k g; omega
  · intro k hk
    obtain ⟨q1, q2, q3, q4⟩ := hA k hk
    refine ⟨q1, fun f => ?_, q3, by omega⟩
    rcases g3 k f with f | f
    · exact q2 f
    · omega
set_option maxRecDepth 100000 in
set_option maxHeartbeats 8000000 in
theorem walk (view n : Int) (v : Value) (l : List VtS) (w : World) (hv : I64 view) (hn : I64 n) (hr : rdS 4 cVtI w v l) (_ : True) :
    Calls Try.prog 6 #[.int .i64 view, .int .i64 n, v] w fun e w' => e = .returned (.bool true) ∧ Below w.heap.size w w' := by
  obtain ⟨hv0, hv1⟩ := hv
  clear hn
  obtain ⟨a, cap, rfl, hm, hM, ha⟩ := hr
  unfold maxLen at hM
  replace ha := Lib.hid ha
  go_enter Try.func6, Try.ntmps6
  go_wp2_with fail
  refine (b20_any _).mono ?_
  rintro e w1 ⟨rfl, hb1⟩
  by_cases hok : 1 ≤ view ∧ 3 ≤ n ∧ n ≤ 7
  case neg =>
    have hd : decT view n = 0 := by rw [decT, if_pos (by omega)]
    replace hb1 := Lib.hid hb1
    replace hd := Lib.hid hd
    go_wp2_with fail
    refine (vNew_any view n _ hv0 hv1).mono ?_
    rintro r w2 (⟨_, rfl, hb2⟩ | ⟨h, _⟩)
    · have hB := hb1.out.trans (hb2.mono hb1.out.size)
      clear hb2
      by_cases c1 : view < 1
      · go_wp2
        go_ret
        exact ⟨rfl, hB⟩
      by_cases c2 : n < 3
      · go_wp2
        go_ret
        exact ⟨rfl, hB⟩
      have c3 : 7 < n := by omega
      go_wp2
      go_ret
      exact ⟨rfl, hB⟩
    · exact absurd hd.out h
  obtain ⟨hvw, hn3, hn7⟩ := hok
  have hd : decT view n ≠ 0 := by
    rw [decT, if_neg (by omega)]
    have := Int.emod_nonneg (view - 1) (show n ≠ 0 by omega)
    omega
  replace hd := Lib.hid hd
  replace hb1 := Lib.hid hb1
  go_wp2_with fail
  refine (vNew_any view n _ hv0 hv1).mono ?_
  rintro r w2 (⟨h, _⟩ | ⟨_, rfl, hvt, hw2⟩)
  · exact absurd h hd.out
  have hb2 : Below w1.heap.size w1 w2 := hw2 ▸ (Below.refl _ _).alloc (Nat.le_refl _) _
  have hsz2 : w2.heap.size = w1.heap.size + 1 := by rw [hw2]; simp
  clear hw2
  have hV3 : VV 78 47 45 51 (fun _ => False) w (w2.alloc (.cells #[.int .i64 view, .int .i64 n, .slice none 0 0] 45)) w1.heap.size w2.heap.size view n [] [] := by
    refine ⟨fun k => k = w1.heap.size, fun _ => False, fun k => k = w2.heap.size, fun _ => False, ?_, ?_, fun _ _ h => h, fun k hk => hk.elim, hvt.grow ((Below.refl _ _).alloc (Nat.le_refl _) _),
      ⟨rfl, fun _ _ h => h, .slice none 0 0, at_new _ _, World.ownsRow_nil _ _ _ _, fun k hk => (by cases hk), fun y hy => (by cases hy)⟩⟩
    · have := hb1.out.size
      rintro k (rfl | h | rfl | h)
      · simp; omega
      · exact h.elim
      · simp; omega
      · exact h.elim
    · rintro k rfl
      exact ⟨by omega, fun h => h⟩
  have hB3 : Below w.heap.size w (w2.alloc (.cells #[.int .i64 view, .int .i64 n, .slice none 0 0] 45)) := (hb1.out.trans (hb2.mono hb1.out.size)).alloc (by have := hb1.out.size; omega) _
  obtain ⟨b1, hb1e⟩ : ∃ b1, b1 = w1.heap.size := ⟨_, rfl⟩
  obtain ⟨b2, hb2e⟩ : ∃ b2, b2 = w2.heap.size := ⟨_, rfl⟩
  rw [← hb1e, ← hb2e] at hV3
  clear hvt hb2 hsz2
  replace hV3 := Lib.hid hV3
  replace hB3 := Lib.hid hB3
  replace hb1e := Lib.hid hb1e
  replace hb2e := Lib.hid hb2e
  go_wp2
  rw [← hb1e.out, ← hb2e.out]
  go_loopw [10] (fun i wr => ∃ (k : Nat) (lp lr : List VtS), k ≤ l.length ∧ k ≤ 20 ∧ i = .int .i64 k ∧ lp.length ≤ k ∧ (lp.map fun y => y.v) = (lr.map fun y => y.v) ∧ goodV lp ∧ (∀ x ∈ lp, x.v.lg.length ≤ 60) ∧ VV 78 47 45 51 (fun _ => False) w wr b1 b2 view n lp lr ∧ Below w.heap.size w wr) (fun i _ => l.length - (intOf i).toNat)
  case atStart => exact ⟨0, [], [], Nat.zero_le _, Nat.zero_le _, rfl, Nat.zero_le _, rfl, goodV_nil, fun x hx => (by cases hx), hV3.out, hB3.out⟩
  case round =>
    obtain ⟨k, lp, lr, hk, hk20, rfl, hlen, hmap, hgood, hl60, hV, hbel⟩ := hrel
    have hsz := hbel.size
    clear hV3 hB3
    replace hmap := Lib.hid hmap
    replace hgood := Lib.hid hgood
    replace hl60 := Lib.hid hl60
    replace hV := Lib.hid hV
    replace hbel := Lib.hid hbel
    by_cases hlt : k < l.length
    · by_cases hlt20 : k < 20
      · obtain ⟨g, off, rfl, hc⟩ := ha.out (by omega)
        have hck := cVtI.grow _ _ _ _ _ (hc k hlt) hbel.out
        clear hc
        generalize l[k] = x at hck
        obtain ⟨⟨c0, c1, c2, c3, c4⟩, hds⟩ := hck
        obtain ⟨sa, sc, hsv⟩ := c4.len
        rw [hsv] at c2 c4
        clear hsv
        replace c4 := Lib.hid c4
        replace hds := Lib.hid hds
        go_wp2_with fail
        refine (cut20_any x.v _ _ c4.out hds.out).mono ?_
        rintro r w5 ⟨s', rfl, ho5, hb5⟩
        have hx12 : (cutV x.v).lg.length ≤ 60 := by
          show (mapCut x.v.lg (min 12 x.v.lg.length)).length ≤ 60
          rw [mapCut_len _ _ (by omega)]; omega
        generalize cutV x.v = X at ho5 hx12
        obtain ⟨ta, tc, rfl⟩ := ho5.rd.len
        obtain ⟨w6, hw6⟩ : ∃ W, W = w5.alloc (boxV X.frm X.last (.slice ta X.lg.length tc) X.com 47) := ⟨_, rfl⟩
        have hb6 : Below w5.heap.size w5 w6 := hw6 ▸ (Below.refl _ _).alloc (Nat.le_refl _) _
        have hx6 : w6.heap[w5.heap.size]? = some (boxV X.frm X.last (.slice ta X.lg.length tc) X.com 47) := hw6 ▸ at_new _ _
        have hbr6 := hb5.trans (hb6.mono hb5.size)
        have hV6 := hV.out.more hbr6 hsz
        have hsA : ∀ k, (Value.slice ta X.lg.length tc).ownBlock = some k → wr.heap.size ≤ k ∧ k < w6.heap.size := fun k hk => ⟨(ho5.lt k hk).1, Nat.lt_of_lt_of_le (ho5.lt k hk).2 hb6.size⟩
        have hR6 := ho5.rd.grow hb6
        have hB6 := hbel.out.trans (hbr6.mono hsz)
        have hbx : wr.heap.size ≤ w5.heap.size ∧ w5.heap.size < w6.heap.size := ⟨hb5.size, at_lt hx6⟩
        obtain ⟨b6, hb6e⟩ : ∃ b6, b6 = w5.heap.size := ⟨_, rfl⟩
        rw [← hb6e] at hx6 hbx
        obtain ⟨A, hA⟩ : ∃ A : Nat → Prop, A = fun k => wr.heap.size ≤ k ∧ k < w6.heap.size := ⟨_, rfl⟩
        rw [← hA] at hV6
        have hbA : A b6 := by rw [hA]; exact hbx
        have hsA2 : ∀ k, (Value.slice ta X.lg.length tc).ownBlock = some k → A k := fun k hk => by rw [hA]; exact hsA k hk
        have hnR : ∀ k, A k → ¬ Rest A w k := fun k hk h => h.2 hk
        clear c0 c1 c2 c3 hb5 hb6 hbr6 ho5 hsA hbx hA hV hbel c4 hds
        replace hV6 := Lib.hid hV6
        replace hR6 := Lib.hid hR6
        replace hB6 := Lib.hid hB6
        replace hx6 := Lib.hid hx6
        replace hsA2 := Lib.hid hsA2
        replace hnR := Lib.hid hnR
        replace hbA := Lib.hid hbA
        replace hb6e := Lib.hid hb6e
        replace hx12 := Lib.hid hx12
        have hokC := Lib.hid (okV_congr hmap.out view n X)
        have hgoodr := Lib.hid (goodV_congr hmap.out hgood.out)
        have hlenr : lr.length ≤ 100 := by have := map_len hmap.out; omega
        obtain ⟨q, hq⟩ : ∃ q, okV view n lp X = q := ⟨_, rfl⟩
        replace hq := Lib.hid hq
        go_upto_region 12 with (fail)
        rw [← hw6, ← hb6e.out]
        clear hw6
        go_cut [67] (fun s wx => s = .bool false ∧ ∃ lp' lr', VV 78 47 45 51 (fun _ => False) w wx b1 b2 view n lp' lr' ∧ lp'.length ≤ k + 1 ∧ (lp'.map fun y => y.v) = (lr'.map fun y => y.v) ∧ goodV lp' ∧ (∀ x ∈ lp', x.v.lg.length ≤ 60) ∧ Below w.heap.size w wx)
        case first =>
          have u0 := upF_cell (F := Rest A w) (hnR.out _ hbA.out) (cell_at hx6.out 0)
          have u1 := upF_cell (F := Rest A w) (hnR.out _ hbA.out) (cell_at hx6.out 1)
          have u2 := upF_cell (F := Rest A w) (hnR.out _ hbA.out) (cell_at hx6.out 2)
          have u3 := upF_cell (F := Rest A w) (hnR.out _ hbA.out) (cell_at hx6.out 3)
          refine wp_region_pc (Rest A w) w6 (.q 0 (.q 1 (.q 3 (.q 4 (.q 5 (.q 6 (.q 7 (.q 8 (.q 9 (.q 10 (.q 11 (.two 2 (.l 12 (.l 13 (.q 14 .fin))) 12 (.l 2 (.l 13 (.q 14 .fin))))))))))))))) (by kernel_rfl) (by kernel_rfl) (Chg.refl _ _) ?_
          intro y0 hheap hy0 hyF
          clear hheap
          have hVy := hV6.out.grow hy0
          have hRy := hR6.out.grow hy0
          have hwy : w.heap.size ≤ y0.heap.size := Nat.le_trans hB6.out.size hy0.size
          have hlen1 : lp.length ≤ 100 := by omega
          iterate 11 (refine pc_q rfl ?_; go_big_quiet_step (fail); refine wpQuiet_nil ?_)
          clear u0 u1 u2 u3
          refine pc_two ?_ ?_
          · refine pc_l rfl (by kernel_rfl) ?_
            intro K hK
            go_simp
            refine (vAdd_v2 hVy hwy X _ hRy hlen1).mono ?_
            rintro r y1 ⟨rfl, lp1, hV1, hm1, hc1⟩
            rw [hq.out]
            replace hm1 := Lib.hid hm1
            have hy1 := hyF.more hc1 (fun i hi => .inl hi)
            have hw1 : w.heap.size ≤ y1.heap.size := Nat.le_trans hwy hc1.size
            have hR1 := hRy.chg hc1 (fun k hk => hnR.out k (hsA2.out k hk))
            refine hK _ _ hy1 ?_
            clear hK K hc1
            refine pc_l rfl (by kernel_rfl) ?_
            intro K hK
            go_simp
            refine hK _ _ hy1 ?_
            clear hK K
            refine pc_l rfl (by kernel_rfl) ?_
            intro K hK
            go_simp
            refine (rAdd_v2 hV1 hgoodr.out hw1 X _ hR1 hsA2.out hlenr).mono ?_
            rintro r y2 ⟨rfl, lr1, hV2, hm2, hc2⟩
            replace hm2 := Lib.hid hm2
            rw [← hokC.out, hq.out]
            have hy2 := hy1.more hc2 (fun i hi => .inl hi)
            refine hK _ _ hy2 ?_
            clear hK K hc2
            have hB7 := hB6.out.trans (hy2.below hB6.out.size fun k hk => hk.1)
            clear hy1 hy2 hR1
            refine pc_q rfl ?_
            go_big_quiet_step (fail)
            refine wpQuiet_nil ?_
            refine pc_fin ?_
            replace hB7 := Lib.hid hB7
            replace hV2 := Lib.hid hV2
            clear hV1
            go_wp2_with fail
            go_meet
            exact ⟨by simp, lp1, lr1, hV2.out.none, len_after hlen hm1.out, by rw [hm1.out, hm2.out, hmap.out, hokC.out], good_after hgood.out hn7 hm1.out, sixty_after hl60.out hx12.out hm1.out, hB7.out⟩
          · refine pc_l rfl (by kernel_rfl) ?_
            intro K hK
            go_simp
            refine hK _ _ hyF ?_
            clear hK K
            refine pc_l rfl (by kernel_rfl) ?_
            intro K hK
            go_simp
            refine (vAdd_v2 hVy hwy X _ hRy hlen1).mono ?_
            rintro r y1 ⟨rfl, lp1, hV1, hm1, hc1⟩
            rw [hq.out]
            replace hm1 := Lib.hid hm1
            have hy1 := hyF.more hc1 (fun i hi => .inl hi)
            have hw1 : w.heap.size ≤ y1.heap.size := Nat.le_trans hwy hc1.size
            have hR1 := hRy.chg hc1 (fun k hk => hnR.out k (hsA2.out k hk))
            refine hK _ _ hy1 ?_
            clear hK K hc1
            refine pc_l rfl (by kernel_rfl) ?_
            intro K hK
            go_simp
            refine (rAdd_v2 hV1 hgoodr.out hw1 X _ hR1 hsA2.out hlenr).mono ?_
            rintro r y2 ⟨rfl, lr1, hV2, hm2, hc2⟩
            replace hm2 := Lib.hid hm2
            rw [← hokC.out, hq.out]
            have hy2 := hy1.more hc2 (fun i hi => .inl hi)
            refine hK _ _ hy2 ?_
            clear hK K hc2
            have hB7 := hB6.out.trans (hy2.below hB6.out.size fun k hk => hk.1)
            clear hy1 hy2 hR1
            refine pc_q rfl ?_
            go_big_quiet_step (fail)
            refine wpQuiet_nil ?_
            refine pc_fin ?_
            replace hB7 := Lib.hid hB7
            replace hV2 := Lib.hid hV2
            clear hV1
            go_wp2_with fail
            go_meet
            exact ⟨by simp, lp1, lr1, hV2.out.none, len_after hlen hm1.out, by rw [hm1.out, hm2.out, hmap.out, hokC.out], good_after hgood.out hn7 hm1.out, sixty_after hl60.out hx12.out hm1.out, hB7.out⟩
        case rest =>
          obtain ⟨rfl, lp1, lr1, hV1, hlen1, hmap1, hgood1, h601, hB1⟩ := hcut
          clear hV6 hR6 hB6 hx6 hsA2 hnR hbA hx12 hokC hgoodr hq hmap hgood hl60 q
          have ht := teamV_congr hmap1
          have hgr := Lib.hid (goodV_congr hmap1 hgood1)
          have hco := comTo_congr hmap1
          have hlm := map_len hmap1
          obtain ⟨T, hT⟩ : ∃ T, teamV lp1 = T := ⟨_, rfl⟩
          have hTr : teamV lr1 = T := by rw [← ht, hT]
          have hTl : T < 128 := by rw [← hT]; exact teamV_lt _
          obtain ⟨mo, hmo⟩ : ∃ mo, mostT T n = mo := ⟨_, rfl⟩
          replace ht := Lib.hid ht
          replace hT := Lib.hid hT
          replace hTr := Lib.hid hTr
          replace hmo := Lib.hid hmo
          replace hco := Lib.hid hco
          replace hlm := Lib.hid hlm
          replace hmap1 := Lib.hid hmap1
          replace hgood1 := Lib.hid hgood1
          replace h601 := Lib.hid h601
          replace hV1 := Lib.hid hV1
          replace hB1 := Lib.hid hB1
          cases mo
          · go_wp2_with fail
            refine (vBest_no b1 view n lp1 _ hV1.out.rd1 (by rw [hT.out]; exact hmo.out)).mono ?_
            rintro r w8 ⟨rfl, hb8⟩
            have hb9 := hb8.alloc hb8.size (boxV 0 0 (.slice none 0 0) 0 47)
            have hV9 := Lib.hid (hV1.out.grow hb9)
            have hB9 := Lib.hid (hB1.out.trans (hb9.mono hB1.out.size))
            clear hb8 hb9 hV1 hB1
            go_wp2_with fail
            refine (r19Best_no b2 view n lr1 _ hV9.out.rd2 hgr.out (by rw [hTr.out]; exact hmo.out)).mono ?_
            rintro r w10 ⟨rfl, hb10⟩
            have hb11 := hb10.alloc hb10.size (boxV 0 0 (.slice none 0 0) 0 51)
            have hV11 := Lib.hid (hV9.out.grow hb11)
            have hB11 := Lib.hid (hB9.out.trans (hb11.mono hB9.out.size))
            clear hb10 hb11 hV9 hB9
            go_wp2_with fail
            refine (vTeam_any b1 view n lp1 _ hV11.out.rd1).mono ?_
            rintro r w12 ⟨rfl, hb12⟩
            rw [hT.out]
            have hV12 := Lib.hid (hV11.out.grow hb12)
            have hB12 := Lib.hid (hB11.out.trans (hb12.mono hB11.out.size))
            clear hb12 hV11 hB11
            go_wp2_with fail
            refine (r19Team_any b2 view n lr1 _ hV12.out.rd2 hgr.out).mono ?_
            rintro r w13 ⟨rfl, rfl⟩
            rw [hTr.out]
            go_wp2_with fail
            refine (vEnough_any b1 view n lp1 _ hV12.out.rd1).mono ?_
            rintro r w14 ⟨rfl, hb14⟩
            rw [hT.out, hmo.out]
            have hV14 := Lib.hid (hV12.out.grow hb14)
            have hB14 := Lib.hid (hB12.out.trans (hb14.mono hB12.out.size))
            clear hb14 hV12 hB12
            go_wp2_with fail
            refine (r19Team_any b2 view n lr1 _ hV14.out.rd2 hgr.out).mono ?_
            rintro r w15 ⟨rfl, rfl⟩
            rw [hTr.out]
            go_wp2_with fail
            refine (rmost_any _ _ _).mono ?_
            rintro r w16 ⟨rfl, hb16⟩
            rw [hmo.out]
            have hV16 := Lib.hid (hV14.out.grow hb16)
            have hB16 := Lib.hid (hB14.out.trans (hb16.mono hB14.out.size))
            clear hb16 hV14 hB14
            go_wp2_with fail
            refine (vView_any b1 view n lp1 _ hV16.out.rd1).mono ?_
            rintro r w17 ⟨rfl, rfl⟩
            go_wp2
            go_roundw
            case rel => exact ⟨k + 1, lp1, lr1, by omega, by omega, by go_num, hlen1, hmap1.out, hgood1.out, h601.out, hV16.out, hB16.out⟩
            case measure => simp [intOf]; omega
          · have hl0 : 0 < lp1.length := by
              rcases Nat.eq_zero_or_pos lp1.length with h | h
              · have e : lp1 = [] := List.eq_nil_of_length_eq_zero h
                have h1 := hT.out
                rw [e] at h1
                have h2 : T = 0 := h1.symm
                have h3 := hmo.out
                rw [h2] at h3
                have h4 : lenT 0 = 0 := by decide
                simp [mostT, h4] at h3
                omega
              · exact h
            have hl0r : 0 < lr1.length := by have := hlm.out; omega
            obtain ⟨Y, hY⟩ : ∃ Y, (bestTo lp1[0] lp1).v = Y := ⟨_, rfl⟩
            have hYr : (bestTo lr1[0] lr1).v = Y := by
              rw [← hY]
              refine (bestTo_congr ?_ hmap1.out).symm
              have := congrArg (fun z => z[0]?) hmap1.out
              simpa [hl0, hl0r] using this
            obtain ⟨C, hC⟩ : ∃ C, min (comTo lp1) (Y.lg.length : Int) = C := ⟨_, rfl⟩
            have hCr : min (comTo lr1) (Y.lg.length : Int) = C := by rw [← hco.out, hC]
            replace hY := Lib.hid hY
            replace hYr := Lib.hid hYr
            replace hC := Lib.hid hC
            replace hCr := Lib.hid hCr
            go_wp2_with fail
            refine (vBest_yes b1 view n lp1 _ _ _ _ hV1.out.rd1 (by rw [hT.out]; exact hmo.out) hl0 h601.out rfl rfl rfl).mono ?_
            rintro r w8 ⟨s8, rfl, ho8, hb8⟩
            rw [hY.out] at ho8 ⊢
            rw [hC.out]
            obtain ⟨a8, c8, rfl⟩ := ho8.rd.len
            have hx9 := at_new w8 (boxV Y.frm Y.last (.slice a8 Y.lg.length c8) C 47)
            have hba : Below w8.heap.size w8 (w8.alloc (boxV Y.frm Y.last (.slice a8 Y.lg.length c8) C 47)) := (Below.refl _ _).alloc (Nat.le_refl _) _
            have hR9 := Lib.hid (ho8.rd.grow hba)
            have hb9 := hb8.alloc hb8.size (boxV Y.frm Y.last (.slice a8 Y.lg.length c8) C 47)
            have hV9 := Lib.hid (hV1.out.grow hb9)
            have hB9 := Lib.hid (hB1.out.trans (hb9.mono hB1.out.size))
            replace hx9 := Lib.hid hx9
            clear hb8 hb9 hba ho8 hV1 hB1
            go_wp2_with fail
            refine (r19Best_yes b2 view n lr1 _ _ _ _ hV9.out.rd2 hgr.out (by rw [hTr.out]; exact hmo.out) hl0r rfl rfl rfl).mono ?_
            rintro r w10 ⟨s10, rfl, hr10, hb10⟩
            rw [hYr.out] at hr10 ⊢
            rw [hCr.out]
            obtain ⟨a10, c10, rfl⟩ := hr10.len
            have hx11 := at_new w10 (boxV Y.frm Y.last (.slice a10 Y.lg.length c10) C 51)
            have hba : Below w10.heap.size w10 (w10.alloc (boxV Y.frm Y.last (.slice a10 Y.lg.length c10) C 51)) := (Below.refl _ _).alloc (Nat.le_refl _) _
            have hb11 := hb10.alloc hb10.size (boxV Y.frm Y.last (.slice a10 Y.lg.length c10) C 51)
            have hR11 := Lib.hid (hR9.out.grow hb11)
            have hS11 := Lib.hid (hr10.grow hba)
            have hx9 := Lib.hid (at_below hx9.out hb11)
            replace hx11 := Lib.hid hx11
            have hV11 := Lib.hid (hV9.out.grow hb11)
            have hB11 := Lib.hid (hB9.out.trans (hb11.mono hB9.out.size))
            obtain ⟨n8, hn8⟩ : ∃ n8, n8 = w8.heap.size := ⟨_, rfl⟩
            obtain ⟨n10, hn10⟩ : ∃ n10, n10 = w10.heap.size := ⟨_, rfl⟩
            rw [← hn8] at hx9
            rw [← hn10] at hx11
            replace hn8 := Lib.hid hn8
            replace hn10 := Lib.hid hn10
            clear hb10 hb11 hba hr10 hR9 hV9 hB9
            go_wp2_with fail
            rw [← hn8.out, ← hn10.out]
            refine (vTeam_any b1 view n lp1 _ hV11.out.rd1).mono ?_
            rintro r w12 ⟨rfl, hb12⟩
            rw [hT.out]
            have hV12 := Lib.hid (hV11.out.grow hb12)
            have hB12 := Lib.hid (hB11.out.trans (hb12.mono hB11.out.size))
            have hx9 := Lib.hid (at_below hx9.out hb12)
            have hx11 := Lib.hid (at_below hx11.out hb12)
            have hR12 := Lib.hid (hR11.out.grow hb12)
            have hS12 := Lib.hid (hS11.out.grow hb12)
            clear hb12 hV11 hB11 hR11 hS11
            go_wp2_with fail
            refine (r19Team_any b2 view n lr1 _ hV12.out.rd2 hgr.out).mono ?_
            rintro r w13 ⟨rfl, rfl⟩
            rw [hTr.out]
            go_wp2_with fail
            refine (vEnough_any b1 view n lp1 _ hV12.out.rd1).mono ?_
            rintro r w14 ⟨rfl, hb14⟩
            rw [hT.out, hmo.out]
            have hV14 := Lib.hid (hV12.out.grow hb14)
            have hB14 := Lib.hid (hB12.out.trans (hb14.mono hB12.out.size))
            have hx9 := Lib.hid (at_below hx9.out hb14)
            have hx11 := Lib.hid (at_below hx11.out hb14)
            have hR14 := Lib.hid (hR12.out.grow hb14)
            have hS14 := Lib.hid (hS12.out.grow hb14)
            clear hb14 hV12 hB12 hR12 hS12
            go_wp2_with fail
            refine (r19Team_any b2 view n lr1 _ hV14.out.rd2 hgr.out).mono ?_
            rintro r w15 ⟨rfl, rfl⟩
            rw [hTr.out]
            go_wp2_with fail
            refine (rmost_any _ _ _).mono ?_
            rintro r w16 ⟨rfl, hb16⟩
            rw [hmo.out]
            have hV16 := Lib.hid (hV14.out.grow hb16)
            have hB16 := Lib.hid (hB14.out.trans (hb16.mono hB14.out.size))
            have hx9 := Lib.hid (at_below hx9.out hb16)
            have hx11 := Lib.hid (at_below hx11.out hb16)
            have hR16 := Lib.hid (hR14.out.grow hb16)
            have hS16 := Lib.hid (hS14.out.grow hb16)
            clear hb16 hV14 hB14 hR14 hS14
            go_wp2_with fail
            refine (vView_any b1 view n lp1 _ hV16.out.rd1).mono ?_
            rintro r w17 ⟨rfl, rfl⟩
            have e0 := cell_at hx9.out 0
            have e1 := cell_at hx9.out 1
            have e2 := cell_at hx9.out 2
            have e3 := cell_at hx9.out 3
            have f0 := cell_at hx11.out 0
            have f1 := cell_at hx11.out 1
            have f2 := cell_at hx11.out 2
            have f3 := cell_at hx11.out 3
            simp only [List.getElem?_toArray, List.getElem?_cons_zero, List.getElem?_cons_succ] at e0 e1 e2 e3 f0 f1 f2 f3
            have heq := Lib.hid (eqAll_refl Y.lg)
            go_wp2_with fail
            refine (r12EqAll_any _ _ Y.lg Y.lg _ hR16.out hS16.out).mono ?_
            rintro r w18 ⟨rfl, hb18⟩
            rw [heq.out]
            have hV18 := Lib.hid (hV16.out.grow hb18)
            have hB18 := Lib.hid (hB16.out.trans (hb18.mono hB16.out.size))
            have hx9 := Lib.hid (at_below hx9.out hb18)
            have hx11 := Lib.hid (at_below hx11.out hb18)
            clear hb18 hV16 hB16 e0 e1 e2 e3 f0 f1 f2 f3
            have e3 := cell_at hx9.out 3
            have f3 := cell_at hx11.out 3
            simp only [List.getElem?_toArray, List.getElem?_cons_zero, List.getElem?_cons_succ] at e3 f3
            go_wp2
            go_roundw
            case rel => exact ⟨k + 1, lp1, lr1, by omega, by omega, by go_num, hlen1, hmap1.out, hgood1.out, h601.out, hV18.out, hB18.out⟩
            case measure => simp [intOf]; omega
      · go_wp2
        go_ret
        exact ⟨rfl, hbel.out⟩
    · go_wp2
      go_ret
      exact ⟨rfl, hbel.out⟩

/-! the row's step, written out by law.py -/
set_option maxRecDepth 100000 in
theorem lifted (os : Os) (started : os.Started) (H : Type) (enc : TypeId × Value → H) :
    ReturnsInHanded {} Try.checked os 6 .any (Rows.voteAllSpec.pre6 enc Try.prog Try.f6 Rows.voteAllRow.domain false) (Rows.voteAllSpec.post enc Try.prog Try.f6 false true false false) := by
  refine returnsInHanded_of_change (C := Try.checked) own started (by kernel_rfl) Try.func6
    (ChangeSpec.witness6 (enc := enc) (C := Try.checked) false ⟨#[], #[.int .i64 0, .int .i64 0, .slice none 0 0], []⟩ 8 (by kernel_rfl) (by kernel_rfl) (by kernel_rfl) (by kernel_rfl)) ?_
  intro W base args ds gs before hval0 hW hcnd _
  have hval : ∀ (j : Nat) t v, Try.f6.params[j]? = some t → args[j]? = some v → Value.okWide Try.prog W .any base t v := hval0
  have hW' := hW
  obtain ⟨p, q, hA0, hV, rfl, hfz, hnd⟩ := hW
  have hA : DataW.TrodAll enc Try.prog W 0 (fun _ => true) true Try.f6.params.toList args.toList ds p := hA0
  rw [Try.params6] at hA hval
  obtain ⟨v0, vs0, d0, ds0, p0, q0, hargs, rfl, rfl, h0, r0⟩ := trodAll_cons hA
  obtain ⟨v1, vs1, d1, ds1, p1, q1, rfl, rfl, rfl, h1, r1⟩ := trodAll_cons r0
  obtain ⟨v2, vs2, d2, ds2, p2, q2, rfl, rfl, rfl, h2, r2⟩ := trodAll_cons r1
  obtain ⟨rfl, rfl, rfl⟩ := trodAll_nil r2
  obtain rfl : args = #[v0, v1, v2] := by cases args; simp_all
  obtain ⟨rfl, rfl⟩ := trodVars_none hV
  have k0 := h0
  have lt0 : ∀ x ∈ p0, x.block < W.heap.size := by obtain ⟨m, hm⟩ := k0; exact DataW.trod_lt m _ _ _ hm
  have k1 := h1
  have lt1 : ∀ x ∈ p1, x.block < W.heap.size := by obtain ⟨m, hm⟩ := k1; exact DataW.trod_lt m _ _ _ hm
  have k2 := h2
  have lt2 : ∀ x ∈ p2, x.block < W.heap.size := by obtain ⟨m, hm⟩ := k2; exact DataW.trod_lt m _ _ _ hm
  obtain ⟨a0, rfl, rfl, rfl, w0⟩ := open_int Try.underlying2 (hval 0 2 v0 rfl rfl) h0
  have w0 := bounds_i64 w0
  obtain ⟨a1, rfl, rfl, rfl, w1⟩ := open_int Try.underlying3 (hval 1 3 v1 rfl rfl) h1
  have w1 := bounds_i64 w1
  obtain ⟨l2, w2, b2⟩ := slvote_open (hval 2 39 v2 rfl rfl) h2
  clear hA0 hval0
  simp only [List.append_nil] at hW'
  refine (walk a0 a1 v2 l2 W w0 w1 w2 b2).mono fun e W' ⟨he, bel⟩ => ?_
  subst he
  exact ⟨_, rfl, _, _, _, [], _, [], hW', trodAll_mk1 (shut_bool Try.underlying4 _), (trodAll_cons_mk (Below.trod laidOut (by kernel_rfl) (of_decide_eq_true (by kernel_rfl)) k0 bel lt0) (trodAll_cons_mk (Below.trod laidOut (by kernel_rfl) (of_decide_eq_true (by kernel_rfl)) k1 bel lt1) (trodAll_cons_mk (Below.trod laidOut (by kernel_rfl) (of_decide_eq_true (by kernel_rfl)) k2 bel lt2) trodAll_mk0))), rfl, bel.frame _, fun h => by cases h⟩

theorem over : Rows.voteAllRow.holds Try.pinned (OpenSpec.ofChange Rows.voteAllSpec) :=
  OpenClaim.holds_of_wide 6 Try.f6 rfl rfl rfl rfl rfl rfl rfl ⟨rfl, rfl, rfl, rfl, rfl⟩ rfl rfl rfl rfl rfl (by kernel_rfl) Try.func6 (by kernel_rfl)
    (of_decide_eq_true (by kernel_rfl)) (by unfold Func.isWrapper; first | (rw [if_pos (by decide +kernel)]; kernel_rfl) | (rw [if_neg (by decide +kernel)]; exact ⟨rfl, rfl⟩))
    (fun os started H enc _ => lifted os started H enc)

theorem proved : Rows.VoteAllSaid := over
end Go.Proofs.Ytacchkmdheglaaa.lawVoteAll
