/- The order of votes says nothing: for all votes; no condition. -/
import Derived.Test.YtacchkmdheglaaaVtV
import Derived.Test.YtacchkmdheglaaaVtO
namespace Go.Proofs.Ytacchkmdheglaaa.lawVoteOrder
open Go.ChangeShapes Go.WideShapes Go.ChangeAt Go.RowKit
set_option linter.unusedVariables false

/-- who was seen -/
def seenC (T : Nat) : Array Value := #[.bool (hasT T 0), .bool (hasT T 1), .bool (hasT T 2), .bool (hasT T 3), .bool (hasT T 4), .bool (hasT T 5), .bool (hasT T 6), .bool (hasT T 7)]

theorem seen_get (T f : Nat) (h1 : 1 ≤ f) (h7 : f ≤ 7) : (seenC T)[f]? = some (.bool (hasT T (f : Int))) := by
  rcases (by omega : f = 1 ∨ f = 2 ∨ f = 3 ∨ f = 4 ∨ f = 5 ∨ f = 6 ∨ f = 7) with rfl | rfl | rfl | rfl | rfl | rfl | rfl <;> rfl
theorem seen_set (T f : Nat) (h1 : 1 ≤ f) (h7 : f ≤ 7) : (seenC T).setIfInBounds f (.bool true) = seenC (withT T (f : Int)) := by
  have h : ∀ i : Int, hasT (withT T (f : Int)) i = (hasT T i || (i == (f : Int) && isB i)) := fun i => has_with T f i
  unfold seenC
  simp only [h]
  rcases (by omega : f = 1 ∨ f = 2 ∨ f = 3 ∨ f = 4 ∨ f = 5 ∨ f = 6 ∨ f = 7) with rfl | rfl | rfl | rfl | rfl | rfl | rfl <;> simp [isB]

/-- a row of votes, owned: its block in F, its logs' in D -/
def rowV (w : World) (F D : Nat → Prop) (v : Value) (l : List VtS) : Prop :=
  w.ownsRow 0 47 4 v l.length (flatV l) ∧ (∀ k, v.ownBlock = some k → F k) ∧ ∀ x ∈ l, rdE w x.s x.v.lg ∧ ∀ k, x.s.ownBlock = some k → D k
theorem rowV.chg {w w' : World} {F D G : Nat → Prop} {v : Value} {l : List VtS} (h : rowV w F D v l) (hc : Chg G w w') (hF : ∀ k, F k → ¬ G k) (hD : ∀ k, D k → ¬ G k) : rowV w' F D v l := by
  obtain ⟨h4, h5, h6⟩ := h
  refine ⟨?_, h5, fun x hx => ⟨(h6 x hx).1.chg hc fun k hk => hD k ((h6 x hx).2 k hk), (h6 x hx).2⟩⟩
  obtain ⟨a1, a2⟩ := h4
  refine ⟨a1, a2.imp id ?_⟩
  rintro ⟨g, cap, cur, e1, e2, e3, e4⟩
  exact ⟨g, cap, cur, e1, e2, by rw [hc.block g (heap_lt e3) (hF g (h5 g (by rw [e1]; rfl)))]; exact e3, e4⟩
theorem rowV.rd {w : World} {F D : Nat → Prop} {v : Value} {l : List VtS} (h : rowV w F D v l) : rdS 4 cVt w v l := by
  obtain ⟨ho, _, hr⟩ := h
  obtain ⟨hl, ⟨rfl, h0⟩ | ⟨g, cap, cur, rfl, hbb, hg, hn, hc, hs, ht⟩⟩ := ho
  · exact ⟨none, 0, by rw [h0], by rw [h0]; exact Nat.zero_le _, Nat.zero_le _, fun h => by omega⟩
  · exact ⟨some ⟨g, 0, none⟩, cap, rfl, hn, hc, fun _ => ⟨g, 0, rfl, fun j hj => cVt_row hg ht (fun x hx => (hr x hx).1) j hj⟩⟩
/-- one more vote lies in the row -/
theorem row_step {w4 wr wB w7 : World} {F D : Nat → Prop} {v : Value} {l : List VtS} {x : Vt} {s' : Value} {gg cap1 : Nat} {X : Obj}
    (hlt : ∀ k, F k ∨ D k → w4.heap.size ≤ k ∧ k < wr.heap.size) (hFD : ∀ k, F k → ¬ D k) (hrow : rowV wB F D v l) (hw4 : w4.heap.size ≤ wr.heap.size) (hwr : wr.heap.size ≤ wB.heap.size)
    (hs : rdE wB s' x.lg) (hsk : ∀ k, s'.ownBlock = some k → wr.heap.size ≤ k ∧ k < wB.heap.size)
    (hown : w7.ownsRow 0 47 4 (.slice (some ⟨gg, 0, none⟩) (l.length + 1) cap1) (l.length + 1) (flatV l ++ (⟨x, s'⟩ : VtS).cells))
    (hgrow : (wB.alloc X).grownBy w7 v.ownBlock) (hat : v.ownBlock = some gg ∨ gg = wB.heap.size + 1) (hlt7 : gg < w7.heap.size) :
    ∃ F' D' : Nat → Prop, (∀ k, F' k ∨ D' k → w4.heap.size ≤ k ∧ k < w7.heap.size) ∧ (∀ k, F' k → ¬ D' k) ∧ rowV w7 F' D' (.slice (some ⟨gg, 0, none⟩) (l.length + 1) cap1) (l ++ [⟨x, s'⟩]) ∧ Chg F wB w7 := by
  obtain ⟨h4, h5, h6⟩ := hrow
  have hsz : wB.heap.size + 1 ≤ w7.heap.size := by have := hgrow.size; simpa using this
  have hc : Chg F wB w7 := ⟨hgrow.os, hgrow.tape, hgrow.output, by omega, fun k hk hF => by
    rw [hgrow.block k (by simp; omega) (fun e => hF (h5 k e.symm))]
    exact Below.heap_alloc wB X k hk⟩
  refine ⟨fun k => F k ∨ k = gg, fun k => D k ∨ s'.ownBlock = some k, ?_, ?_, ⟨?_, ?_, ?_⟩, hc⟩
  · rintro k ((hk | rfl) | (hk | hk))
    · have := hlt k (.inl hk); omega
    · rcases hat with h | h
      · have := hlt _ (.inl (h5 _ h)); omega
      · omega
    · have := hlt k (.inr hk); omega
    · have := hsk k hk; omega
  · rintro k (hk | rfl) (hd | hd)
    · exact hFD k hk hd
    · have := hlt k (.inl hk); have := hsk k hd; omega
    · rcases hat with h | h
      · exact hFD _ (h5 _ h) hd
      · have := hlt _ (.inr hd); omega
    · rcases hat with h | h
      · have := hlt _ (.inl (h5 _ h)); have := hsk _ hd; omega
      · have := hsk _ hd; omega
  · rw [List.length_append, flatV_snoc]; exact hown
  · intro k hk
    injection hk with hk
    exact .inr hk.symm
  · intro y hy
    rcases List.mem_append.1 hy with hy | hy
    · exact ⟨(h6 y hy).1.chg hc fun k hk f => hFD k f ((h6 y hy).2 k hk), fun k hk => .inl ((h6 y hy).2 k hk)⟩
    · rw [List.mem_singleton] at hy
      subst hy
      exact ⟨hs.chg hc fun k hk f => by have := hsk k hk; have := hlt k (.inl f); omega, fun k hk => .inr hk⟩

theorem newsV_one (x : VtS) (h : ∃ a n c, x.s = .slice a n c) : ∀ u ∈ x.cells, u.oneCell' = true := by
  obtain ⟨a, n, c, h⟩ := h
  intro u hu
  simp only [VtS.cells, h, List.mem_cons, List.not_mem_nil, or_false] at hu
  rcases hu with rfl | rfl | rfl | rfl <;> rfl
/-- two gatherings while the picked votes are added -/
structure Two (w w4 wm wq : World) (b1 b2 : Nat) (view n : Int) (L : List Vt) (k : Nat) (lp lu : List VtS) : Prop where
  vv : VV 78 47 78 47 (fun j => w4.heap.size ≤ j ∧ j < wm.heap.size) w wq b1 b2 view n lp lu
  p : (lp.map fun y => y.v) = (L.take k).filter (okX view n)
  u : (lu.map fun y => y.v) = (L.reverse.take k).filter (okX view n)
  chg : Chg (Rest (fun j => w4.heap.size ≤ j ∧ j < wm.heap.size) w) wm wq
theorem len_filter {l : List VtS} {L : List Vt} {f : Vt → Bool} {k : Nat} (h : (l.map fun y => y.v) = (L.take k).filter f) : l.length ≤ k := by
  have h1 := congrArg List.length h
  rw [List.length_map] at h1
  have h2 := List.length_filter_le f (L.take k)
  rw [List.length_take] at h2
  omega
theorem all_filter {l : List VtS} {L : List Vt} {f : Vt → Bool} (P : Vt → Prop) (h : (l.map fun y => y.v) = L.filter f) (hL : ∀ x ∈ L, P x) : ∀ y ∈ l, P y.v := by
  intro y hy
  have : y.v ∈ l.map fun y => y.v := List.mem_map_of_mem hy
  rw [h] at this
  exact hL _ (List.mem_filter.1 this).1

/-- what lasts while the votes are picked -/
def Pick (w4 wr : World) (sb : Nat) (own : Value) (ol : List VtS) : Prop :=
  ∃ F D : Nat → Prop, (∀ k, F k ∨ D k → w4.heap.size ≤ k ∧ k < wr.heap.size) ∧ (∀ k, F k → ¬ D k) ∧ rowV wr F D own ol ∧ wr.heap[sb]? = some (.cells (seenC (teamV ol)) 63 (0, 0)) ∧ Chg (fun k => k = sb) w4 wr
theorem Pick.grow {w4 wr w' : World} {sb : Nat} {own : Value} {ol : List VtS} (h : Pick w4 wr sb own ol) (hb : Below wr.heap.size wr w') : Pick w4 w' sb own ol := by
  obtain ⟨F, D, h1, h2, h3, h4, h5⟩ := h
  exact ⟨F, D, fun k hk => ⟨(h1 k hk).1, Nat.lt_of_lt_of_le (h1 k hk).2 hb.size⟩, h2, h3.chg (G := fun _ => False) (.of_below hb) (fun _ _ => id) (fun _ _ => id), at_below h4 hb, h5.on hb⟩
theorem cVt.chg {w w' : World} {G : Nat → Prop} {b o : Nat} {x : VtS} (h : cVt w b o x) (hc : Chg G w w') (hb : ¬ G b) (hs : ∀ k, x.s.ownBlock = some k → ¬ G k) : cVt w' b o x := by
  have hlt := h.lt
  obtain ⟨h1, h2, h3, h4, h5⟩ := h
  have k : ∀ o, w'.cell? ⟨b, o, none⟩ = w.cell? ⟨b, o, none⟩ := fun o => World.cell?_of_block (w := w) (a := ⟨b, o, none⟩) (hc.block b hlt hb)
  exact ⟨by rw [k]; exact h1, by rw [k]; exact h2, by rw [k]; exact h3, by rw [k]; exact h4, h5.chg hc hs⟩
theorem goodV_nodup {l : List VtS} (h : goodV l) : ((l.map fun y => y.v).map fun x => x.frm).Nodup := by
  rw [List.Nodup, List.pairwise_iff_getElem]
  intro i j hi hj hij
  rw [List.length_map, List.length_map] at hi hj
  simp only [List.getElem_map]
  obtain ⟨h1, h7, hn⟩ := h j hj
  intro e
  unfold teamV at hn
  rw [has_foldl] at hn
  have hm : ((l.take j).map fun x => x.v.frm).contains l[j].v.frm = true := by
    rw [List.contains_iff_mem]
    refine List.mem_map.2 ⟨l[i], ?_, e⟩
    exact List.mem_iff_getElem.2 ⟨i, by rw [List.length_take]; omega, List.getElem_take⟩
  rw [hm, isB_yes h1 h7] at hn
  simp at hn

set_option maxRecDepth 100000 in
set_option maxHeartbeats 8000000 in
theorem walk (view n : Int) (v : Value) (l : List VtS) (w : World) (hv : I64 view) (hn : I64 n) (hr : rdS 4 cVtI w v l) (_ : True) :
    Calls Try.prog 7 #[.int .i64 view, .int .i64 n, v] w fun e w' => e = .returned (.bool true) ∧ Below w.heap.size w w' := by
  obtain ⟨i0, hi, hz0, hz1, hz2⟩ := info_parts infoVote
  replace hi := Lib.hid hi
  obtain ⟨hv0, hv1⟩ := hv
  clear hn
  obtain ⟨a, cap, rfl, hm, hM, ha⟩ := hr
  unfold maxLen at hM
  replace ha := Lib.hid ha
  go_enter Try.func7, Try.ntmps7
  go_wp2_with fail
  refine (b20_any _).mono ?_
  rintro e w1 ⟨rfl, hb1⟩
  replace hb1 := Lib.hid hb1
  by_cases c1 : view < 1
  · go_wp2
    go_ret
    exact ⟨rfl, hb1.out⟩
  by_cases c2 : n < 3
  · go_wp2
    go_ret
    exact ⟨rfl, hb1.out⟩
  by_cases c3 : 7 < n
  · go_wp2
    go_ret
    exact ⟨rfl, hb1.out⟩
  have hd : decT view n ≠ 0 := by
    rw [decT, if_neg (by omega)]
    have := Int.emod_nonneg (view - 1) (show n ≠ 0 by omega)
    omega
  replace hd := Lib.hid hd
  go_wp2_with fail
  refine (vNew_any view n _ hv0 hv1).mono ?_
  rintro r w2 (⟨h, _⟩ | ⟨_, rfl, hvt, hw2⟩)
  · exact absurd h hd.out
  have hb2 : Below w1.heap.size w1 w2 := hw2 ▸ (Below.refl _ _).alloc (Nat.le_refl _) _
  have hsz2 : w2.heap.size = w1.heap.size + 1 := by rw [hw2]; simp
  clear hw2
  obtain ⟨b1, hb1e⟩ : ∃ b1, b1 = w1.heap.size := ⟨_, rfl⟩
  rw [← hb1e] at hvt ⊢
  replace hb1e := Lib.hid hb1e
  replace hsz2 := Lib.hid hsz2
  replace hvt := Lib.hid hvt
  replace hb2 := Lib.hid hb2
  go_wp2_with fail
  refine (vNew_any view n _ hv0 hv1).mono ?_
  rintro r w3 (⟨h, _⟩ | ⟨_, rfl, hvu, hw3⟩)
  · exact absurd h hd.out
  have hb3 : Below w2.heap.size w2 w3 := hw3 ▸ (Below.refl _ _).alloc (Nat.le_refl _) _
  have hsz3 : w3.heap.size = w2.heap.size + 1 := by rw [hw3]; simp
  clear hw3
  obtain ⟨b2, hb2e⟩ : ∃ b2, b2 = w2.heap.size := ⟨_, rfl⟩
  rw [← hb2e] at hvu ⊢
  replace hb2e := Lib.hid hb2e
  replace hsz3 := Lib.hid hsz3
  replace hvu := Lib.hid hvu
  replace hb3 := Lib.hid hb3
  obtain ⟨w4, hw4⟩ : ∃ W, W = w3.alloc (.cells (seenC 0) 63) := ⟨_, rfl⟩
  obtain ⟨sb, hsb⟩ : ∃ sb, sb = w3.heap.size := ⟨_, rfl⟩
  have hx4 : w4.heap[sb]? = some (.cells (seenC 0) 63 (0, 0)) := by rw [hw4, hsb]; exact at_new _ _
  have hb4 : Below w3.heap.size w3 w4 := hw4 ▸ (Below.refl _ _).alloc (Nat.le_refl _) _
  have hsz4 : w4.heap.size = w3.heap.size + 1 := by rw [hw4]; simp
  have hB4 : Below w.heap.size w w4 := (((hb1.out.trans (hb2.out.mono hb1.out.size)).trans (hb3.out.mono (Nat.le_trans hb1.out.size hb2.out.size))).trans (hb4.mono (Nat.le_trans (Nat.le_trans hb1.out.size hb2.out.size) hb3.out.size)))
  have hvt4 := Lib.hid ((hvt.out.grow hb3.out).grow hb4)
  have hvu4 := Lib.hid (hvu.out.grow hb4)
  have hbs : w.heap.size ≤ b1 ∧ b1 < b2 ∧ b2 < sb ∧ sb < w4.heap.size := by
    have := hb1.out.size; have := hb1e.out; have := hb2e.out; have := hsz2.out; have := hsz3.out; omega
  have hP4 : Pick w4 w4 sb (.slice none 0 0) [] := ⟨fun _ => False, fun _ => False, fun k hk => (hk.elim id id).elim, fun _ h => h.elim, ⟨World.ownsRow_nil _ _ _ _, fun k hk => (by cases hk), fun x hx => (by cases hx)⟩, hx4, Chg.refl _ _⟩
  replace hP4 := Lib.hid hP4
  replace hB4 := Lib.hid hB4
  replace hsb := Lib.hid hsb
  replace hsz4 := Lib.hid hsz4
  clear hx4 hb4 hvt hvu hb1 hb2 hb3 hb1e hb2e hsz2 hsz3 hd
  go_upto_region 9 with (fail)
  rw [show (Obj.cells #[.bool false, .bool false, .bool false, .bool false, .bool false, .bool false, .bool false, .bool false] 63) = .cells (seenC 0) 63 from rfl, ← hw4, ← hsb.out]
  clear hw4
  go_wp2
  go_loopw [10, 12] (fun own i wr => ∃ (k : Nat) (ol : List VtS), k ≤ l.length ∧ k ≤ 20 ∧ i = .int .i64 k ∧ ol.length ≤ k ∧ goodV ol ∧ (∀ x ∈ ol, x.v.lg.length ≤ 60) ∧ Pick w4 wr sb own ol) (fun _ i _ => l.length - (intOf i).toNat)
  case atStart => exact ⟨0, [], Nat.zero_le _, Nat.zero_le _, rfl, Nat.zero_le _, goodV_nil, fun x hx => (by cases hx), hP4.out⟩
  case round =>
    obtain ⟨k, ol, hk, hk20, rfl, hlen, hgood, h60, hP⟩ := hrel
    have hbel : Below w.heap.size w wr := by
      obtain ⟨F, D, h1, h2, h3, h4, h5⟩ := hP
      exact hB4.out.trans (h5.below hB4.out.size fun k hk => by omega)
    have hw4r : w4.heap.size ≤ wr.heap.size := by obtain ⟨F, D, h1, h2, h3, h4, h5⟩ := hP; exact h5.size
    clear hP4
    replace hgood := Lib.hid hgood
    replace h60 := Lib.hid h60
    replace hP := Lib.hid hP
    replace hbel := Lib.hid hbel
    by_cases hlt : k < l.length
    · by_cases hlt20 : k < 20
      · obtain ⟨g, off, rfl, hc⟩ := ha.out (by omega)
        have hck := cVtI.grow _ _ _ _ _ (hc k hlt) hbel.out
        clear hc
        generalize l[k] = x at hck
        obtain ⟨⟨c0, c1, c2, c3, c4⟩, hds⟩ := hck
        obtain ⟨sa, sc, hsv⟩ := c4.len
        rw [hsv] at c2 c4
        clear hsv
        replace c4 := Lib.hid c4
        replace hds := Lib.hid hds
        go_wp2_with fail
        refine (cut20_any x.v _ _ c4.out hds.out).mono ?_
        rintro r w5 ⟨s', rfl, ho5, hb5⟩
        have hx12 : (cutV x.v).lg.length ≤ 60 := by
          show (mapCut x.v.lg (min 12 x.v.lg.length)).length ≤ 60
          rw [mapCut_len _ _ (by omega)]; omega
        generalize cutV x.v = X at ho5 hx12
        obtain ⟨ta, tc, rfl⟩ := ho5.rd.len
        obtain ⟨xf, xl, xg, xc⟩ := X
        dsimp only at ho5 hx12
        simp only [Vt.val]
        obtain ⟨w6, hw6⟩ : ∃ W, W = w5.alloc (boxV xf xl (.slice ta xg.length tc) xc 47) := ⟨_, rfl⟩
        have hb6 : Below w5.heap.size w5 w6 := hw6 ▸ (Below.refl _ _).alloc (Nat.le_refl _) _
        have hx6 : w6.heap[w5.heap.size]? = some (boxV xf xl (.slice ta xg.length tc) xc 47) := hw6 ▸ at_new _ _
        have hbr6 := hb5.trans (hb6.mono hb5.size)
        have hR6 := Lib.hid (ho5.rd.grow hb6)
        have hsk : Hid (∀ k, (Value.slice ta xg.length tc).ownBlock = some k → wr.heap.size ≤ k ∧ k < w6.heap.size) := Lib.hid fun k hk => ⟨(ho5.lt k hk).1, Nat.lt_of_lt_of_le (ho5.lt k hk).2 hb6.size⟩
        have hP6 := Lib.hid (hP.out.grow hbr6)
        have hwr6 := hbr6.size
        have hbx : wr.heap.size ≤ w5.heap.size ∧ w5.heap.size < w6.heap.size := ⟨hb5.size, at_lt hx6⟩
        obtain ⟨b6, hb6e⟩ : ∃ b6, b6 = w5.heap.size := ⟨_, rfl⟩
        rw [← hb6e] at hx6 hbx
        have u0 := cell_at hx6 0
        have u1 := cell_at hx6 1
        have u2 := cell_at hx6 2
        have u3 := cell_at hx6 3
        simp only [List.getElem?_toArray, List.getElem?_cons_zero, List.getElem?_cons_succ] at u0 u1 u2 u3
        replace hb6e := Lib.hid hb6e
        replace hx6 := Lib.hid hx6
        replace hx12 := Lib.hid hx12
        replace hbr6 := Lib.hid hbr6
        clear c0 c1 c2 c3 hb5 hb6 ho5 c4 hds
        go_upto_region 13 with (fail)
        rw [← hw6, ← hb6e.out]
        clear hw6
        by_cases g1 : 1 ≤ xf
        case neg =>
          have d1 : decide (1 ≤ xf) = false := by simpa using g1
          go_wp2
          go_roundw
          case rel => exact ⟨k + 1, ol, by omega, by omega, by go_num, by omega, hgood.out, h60.out, hP6.out⟩
          case measure => simp [intOf]; omega
        by_cases g7 : xf ≤ 7
        case neg =>
          have d1 : decide (1 ≤ xf) = true := by simpa using g1
          have d7 : decide (xf ≤ 7) = false := by simpa using g7
          go_wp2
          go_roundw
          case rel => exact ⟨k + 1, ol, by omega, by omega, by go_num, by omega, hgood.out, h60.out, hP6.out⟩
          case measure => simp [intOf]; omega
        obtain ⟨f, rfl⟩ : ∃ f : Nat, xf = f := ⟨xf.toNat, by omega⟩
        have hf1 : 1 ≤ f := by omega
        have hf7 : f ≤ 7 := by omega
        obtain ⟨F, D, q1, q2, q3, q4, q5⟩ := hP.out
        replace q3 := q3.chg (G := fun _ => False) (.of_below hbr6.out) (fun _ _ => id) (fun _ _ => id)
        replace q4 := at_below q4 hbr6.out
        replace q5 := q5.on hbr6.out
        have v0 := cell_at q4 f
        rw [seen_get _ f hf1 hf7] at v0
        have z0 := free_at q4 f
        have hsbl := at_lt q4
        obtain ⟨sn, hsn⟩ : ∃ sn, hasT (teamV ol) (f : Int) = sn := ⟨_, rfl⟩
        rw [hsn] at v0
        cases sn
        case true =>
          replace hsn := Lib.hid hsn
          clear q1 q2 q3 q4 q5
          go_wp2
          go_roundw
          case rel => exact ⟨k + 1, ol, by omega, by omega, by go_num, by omega, hgood.out, h60.out, hP6.out⟩
          case measure => simp [intOf]; omega
        have hset := set_at (o := f) (u := .bool true) q4
        rw [seen_set _ f hf1 hf7] at hset
        obtain ⟨w7, hw7⟩ : ∃ W, W = w6.setCell ⟨sb, f, none⟩ (.bool true) := ⟨_, rfl⟩
        rw [← hw7] at hset
        have hc7 : Chg (fun k => k = sb) w6 w7 := hw7 ▸ chg_set (Chg.refl _ _) rfl
        have hnF : ∀ k, F k → ¬ k = sb := fun k hk e => by have := (q1 k (.inl hk)).1; omega
        have hnD : ∀ k, D k → ¬ k = sb := fun k hk e => by have := (q1 k (.inr hk)).1; omega
        have hrow7 := q3.chg hc7 hnF hnD
        have hR7 := hR6.out.chg hc7 (fun k hk e => by have := hsk.out k hk; omega)
        have hx7 : w7.heap[b6]? = some (boxV f xl (.slice ta xg.length tc) xc 47) := by
          rw [hc7.block b6 hbx.2 (by omega)]; exact hx6.out
        have q57 := q5.more hc7 (fun i hi => .inl hi)
        have hs7 : w7.heap.size = w6.heap.size := by rw [hw7]; exact World.size_setCell _ _ _
        obtain ⟨ao, co, rfl⟩ := hrow7.rd.len
        replace hsn := Lib.hid hsn
        replace hset := Lib.hid hset
        replace hrow7 := Lib.hid hrow7
        replace hR7 := Lib.hid hR7
        replace q57 := Lib.hid q57
        replace q1 := Lib.hid q1
        replace q2 := Lib.hid q2
        clear q3 q4 q5 hnF hnD hc7
        go_upto_region 15 with (fail)
        rw [← hw7]
        clear hw7 u0 u1 u2 u3 v0 z0
        have u0 := cell_at hx7 0
        have u1 := cell_at hx7 1
        have u2 := cell_at hx7 2
        have u3 := cell_at hx7 3
        simp only [List.getElem?_toArray, List.getElem?_cons_zero, List.getElem?_cons_succ] at u0 u1 u2 u3
        replace hx7 := Lib.hid hx7
        replace hs7 := Lib.hid hs7
        go_wp2_with (first
          | (at_builtin; refine wpList_append_lies _ rfl _ _ 39 rfl 0 47 i0 _ 4 48 Try.underlying39 hi.out hz0 hz1 hz2 rfl (by decide) (.slice ao ol.length co) ol.length (flatV ol) rfl (World.ownsRow.alloc hrow7.out.1 _) ⟨_, 0, none⟩ 1 1 (⟨⟨f, xl, xg, xc⟩, .slice ta xg.length tc⟩ : VtS).cells rfl rfl ?c1 ?c2 (by decide) ?c3 ?c4 (Nat.zero_le _) (w7.heap.size + 1) ?c5 ?_))
        case c1 => exact World.news_of_block (cs := (⟨⟨f, xl, xg, xc⟩, .slice ta xg.length tc⟩ : VtS).cells.toArray) (t := 47) (fr := (0, 0)) (heap_alloc_new w7 _)
        case c2 => exact newsV_one _ ⟨_, _, _, rfl⟩
        case c3 => unfold maxLen; omega
        case c4 => omega
        case c5 => simp
        intro gg cap1 w8 hown8 hgrow8 hat8 hlt8
        have hP8 : Pick w4 w8 sb (.slice (some ⟨gg, 0, none⟩) (ol.length + 1) cap1) (ol ++ [⟨⟨f, xl, xg, xc⟩, .slice ta xg.length tc⟩]) := by
          have e7 := hs7.out
          obtain ⟨F', D', p1, p2, p3, p4⟩ := row_step (x := ⟨f, xl, xg, xc⟩) (s' := .slice ta xg.length tc) q1.out q2.out hrow7.out hw4r (by omega) hR7.out (fun k hk => by have := hsk.out k hk; omega) hown8 hgrow8 hat8 hlt8
          refine ⟨F', D', p1, p2, p3, ?_, q57.out.more p4 (fun i hi => .inr (q1.out i (.inl hi)).1)⟩
          rw [p4.block sb (by omega) (fun hf => by have := (q1.out sb (.inl hf)).1; omega), teamV_snoc]
          exact hset.out
        have hg8 : goodV (ol ++ [⟨⟨f, xl, xg, xc⟩, .slice ta xg.length tc⟩]) := goodV_snoc hgood.out (by show (1 : Int) ≤ f; omega) (by show (f : Int) ≤ 7; omega) hsn.out
        have h68 : ∀ x ∈ ol ++ [(⟨⟨f, xl, xg, xc⟩, .slice ta xg.length tc⟩ : VtS)], x.v.lg.length ≤ 60 := fun x hx => by
          rcases List.mem_append.1 hx with hx | hx
          · exact h60.out x hx
          · rw [List.mem_singleton] at hx; rw [hx]; exact hx12.out
        have hl8 : (ol ++ [(⟨⟨f, xl, xg, xc⟩, .slice ta xg.length tc⟩ : VtS)]).length ≤ k + 1 := by simp; omega
        clear hown8 hgrow8 hat8 hP6 hP
        replace hP8 := Lib.hid hP8
        replace hg8 := Lib.hid hg8
        replace h68 := Lib.hid h68
        replace hl8 := Lib.hid hl8
        go_wp2
        go_roundw
        case rel => exact ⟨k + 1, _, by omega, by omega, by go_num, hl8.out, hg8.out, h68.out, hP8.out⟩
        case measure => simp [intOf]; omega
      · have hgood := hgood.out
        have h60 := h60.out
        have hlen2 : ol.length ≤ 20 := by omega
        obtain ⟨F, D, r1, r2, r3, r4, r5⟩ := hP.out
        clear hP hbel hlen hw4r
        obtain ⟨wc, rfl⟩ : ∃ x, x = wr := ⟨_, rfl⟩
        obtain ⟨a1, c1, rfl, hm1, hM1, ha1⟩ := r3.rd
        unfold maxLen at hM1
        have hsz5 := r5.size
        have hBm := hB4.out.trans (r5.below hB4.out.size fun k hk => by omega)
        have hlogs : ∀ x ∈ ol, ∀ k, x.s.ownBlock = some k → w4.heap.size ≤ k ∧ k < wc.heap.size := fun x hx k hk => r1 k (.inr ((r3.2.2 x hx).2 k hk))
        have hrowA : ∀ g off, a1 = some ⟨g, off, none⟩ → w4.heap.size ≤ g ∧ g < wc.heap.size := fun g off e => r1 g (.inl (r3.2.1 g (by rw [e]; rfl)))
        have hVV : VV 78 47 78 47 (fun j => w4.heap.size ≤ j ∧ j < wc.heap.size) w wc b1 b2 view n [] [] := by
          refine ⟨fun k => k = b1, fun _ => False, fun k => k = b2, fun _ => False, ?_, ?_, fun _ _ h => h, ?_, hvt4.out.chg r5 (fun k hk e => ?_) (fun _ h => h.elim), hvu4.out.chg r5 (fun k hk e => ?_) (fun _ h => h.elim)⟩
          · rintro k (rfl | h | rfl | h)
            · omega
            · exact h.elim
            · omega
            · exact h.elim
          · rintro k rfl
            exact ⟨by omega, fun h => h⟩
          · intro k hk
            exact ⟨by omega, by omega, by have := hB4.out.size; omega, hk.2⟩
          · have : k = b1 := hk; have : k = sb := e; omega
          · have : k = b2 := hk; have : k = sb := e; omega
        have hd := goodV_nodup hgood
        have hdr : (((ol.map fun y => y.v).reverse).map fun x => x.frm).Nodup := by rw [List.map_reverse]; exact List.pairwise_reverse.2 (List.Pairwise.imp (fun h e => h e.symm) hd)
        obtain ⟨L, hL⟩ : ∃ L, (ol.map fun y => y.v) = L := ⟨_, rfl⟩
        have hLl : L.length = ol.length := by rw [← hL]; simp
        have hLr : L.reverse.length = ol.length := by rw [List.length_reverse]; exact hLl
        have hL60 : ∀ x ∈ L, x.lg.length ≤ 60 := by
          rw [← hL]
          intro x hx
          obtain ⟨z, hz, e⟩ := List.mem_map.1 hx
          rw [← e]; exact h60 z hz
        have hTw : Two w w4 wc wc b1 b2 view n L 0 [] [] := ⟨hVV, by simp, by simp, Chg.refl _ _⟩
        rw [hL] at hd hdr
        replace hL := Lib.hid hL
        replace hd := Lib.hid hd
        replace hdr := Lib.hid hdr
        replace hTw := Lib.hid hTw
        replace hBm := Lib.hid hBm
        replace hlogs := Lib.hid hlogs
        replace hrowA := Lib.hid hrowA
        replace ha1 := Lib.hid ha1
        replace hLl := Lib.hid hLl
        replace hLr := Lib.hid hLr
        replace hL60 := Lib.hid hL60
        clear hVV r1 r2 r3 r4 r5 hgood h60 hvt4 hvu4
        go_wp2
        go_loopw [14] (fun i wr => ∃ (k : Nat) (lp lu : List VtS), k ≤ ol.length ∧ i = .int .i64 k ∧ Two w w4 wc wr b1 b2 view n L k lp lu) (fun i _ => ol.length - (intOf i).toNat)
        case atStart => exact ⟨0, [], [], Nat.zero_le _, rfl, hTw.out⟩
        case round =>
          obtain ⟨k, lp, lu, hk, rfl, hTq⟩ := hrel
          clear hTw
          have hwq := hTq.chg.size
          have hBq := Lib.hid (hBm.out.trans (hTq.chg.below hBm.out.size fun k hk => hk.1))
          by_cases hlt : k < ol.length
          · have hlt2 : ol.length - 1 - k < ol.length := by omega
            obtain ⟨g, off, rfl, hc⟩ := ha1.out (by omega)
            have hgA := hrowA.out g off rfl
            have hk1 := cVt.chg (hc k hlt) hTq.chg (fun h => h.2 hgA) (fun j hj h => h.2 (hlogs.out _ (List.getElem_mem hlt) j hj))
            have hk2 := cVt.chg (hc _ hlt2) hTq.chg (fun h => h.2 hgA) (fun j hj h => h.2 (hlogs.out _ (List.getElem_mem hlt2) j hj))
            have hs2 : Hid (∀ j, ol[ol.length - 1 - k].s.ownBlock = some j → w4.heap.size ≤ j ∧ j < wc.heap.size) := Lib.hid fun j hj => hlogs.out _ (List.getElem_mem hlt2) j hj
            have e1 : L[k]'(by have := hLl.out; omega) = ol[k].v := by
              have := hL.out
              subst this
              simp
            have e2 : L.reverse[k]'(by have := hLr.out; omega) = ol[ol.length - 1 - k].v := by
              have := hL.out
              subst this
              simp [List.getElem_reverse]
            obtain ⟨j, hj⟩ : ∃ j : Nat, j = ol.length - 1 - k := ⟨_, rfl⟩
            have hjI : (ol.length : Int) - 1 - (k : Int) = (j : Int) := by omega
            simp only [← hj] at hk2 hs2 e2 hlt2
            have hjl : j < ol.length := hlt2
            generalize ol[k] = x at hk1 e1
            generalize ol[j] = z at hk2 hs2 e2
            clear hc hlt2
            replace hj := Lib.hid hj
            obtain ⟨c0, c1, c2, c3, c4⟩ := hk1
            obtain ⟨sa, sc, hsv⟩ := c4.len
            rw [hsv] at c2 c4
            clear hsv
            have hlp := len_filter hTq.p
            have hlu := len_filter hTq.u
            have hlp100 : lp.length ≤ 100 := by omega
            have hlu100 : lu.length ≤ 100 := by omega
            have hwwq : w.heap.size ≤ wr.heap.size := hBq.out.size
            replace c4 := Lib.hid c4
            replace hTq := Lib.hid hTq
            replace hk2 := Lib.hid hk2
            replace e1 := Lib.hid e1
            replace e2 := Lib.hid e2
            go_wp2_with fail
            refine (vAdd_v2 hTq.out.vv hwwq x.v _ c4.out hlp100).mono ?_
            rintro r w5 ⟨rfl, lp1, hV5, hm5, hc5⟩
            have hk25 := cVt.chg hk2.out hc5 (fun h => h.2 hgA) (fun j hj h => h.2 (hs2.out j hj))
            have hww5 : w.heap.size ≤ w5.heap.size := Nat.le_trans hwwq hc5.size
            have hcg5 := Lib.hid (hTq.out.chg.more hc5 (fun i hi => .inl hi))
            replace hV5 := Lib.hid hV5
            replace hm5 := Lib.hid hm5
            clear c0 c1 c2 c3 c4 hc5 hk2
            obtain ⟨c0, c1, c2, c3, c4⟩ := hk25
            obtain ⟨sa2, sc2, hsv⟩ := c4.len
            rw [hsv] at c2 c4
            clear hsv
            replace c4 := Lib.hid c4
            go_wp2_with fail
            refine (vAdd_v2 hV5.out.swap hww5 z.v _ c4.out hlu100).mono ?_
            rintro r w6 ⟨rfl, lu1, hV6, hm6, hc6⟩
            have hT6 : Two w w4 wc w6 b1 b2 view n L (k + 1) lp1 lu1 := ⟨hV6.swap, gather_step hd.out (by have := hLl.out; omega) hTq.out.p (by rw [e1.out]; exact hm5.out), gather_step hdr.out (by have := hLr.out; omega) hTq.out.u (by rw [e2.out]; exact hm6), hcg5.out.more hc6 (fun i hi => .inl hi)⟩
            replace hT6 := Lib.hid hT6
            clear c0 c1 c2 c3 c4 hV6 hm6 hc6
            go_wp2
            go_roundw
            case rel => exact ⟨k + 1, lp1, lu1, by omega, by go_num, hT6.out⟩
            case measure => simp [intOf]; omega
          · obtain rfl : k = ol.length := by omega
            have hp := hTq.p
            have hu := hTq.u
            rw [← hLl.out, List.take_length] at hp
            rw [← hLr.out, List.take_length] at hu
            obtain ⟨ht, hco, hle, hbe⟩ := order_same hd.out hp hu
            have h6p := Lib.hid (all_filter (fun v => v.lg.length ≤ 60) hp hL60.out)
            have h6u := Lib.hid (all_filter (fun v => v.lg.length ≤ 60) hu fun x hx => hL60.out x (List.mem_reverse.1 hx))
            have hVf := Lib.hid hTq.vv
            have hBf := hBq
            obtain ⟨T, hT⟩ : ∃ T, teamV lp = T := ⟨_, rfl⟩
            have hTu : teamV lu = T := by rw [← ht, hT]
            have hTl : T < 128 := by rw [← hT]; exact teamV_lt _
            obtain ⟨mo, hmo⟩ : ∃ mo, mostT T n = mo := ⟨_, rfl⟩
            clear ht hp hu hTq
            replace hT := Lib.hid hT
            replace hTu := Lib.hid hTu
            replace hmo := Lib.hid hmo
            replace hco := Lib.hid hco
            replace hle := Lib.hid hle
            replace hbe := Lib.hid hbe
            cases mo
            · go_wp2_with fail
              refine (vBest_no b1 view n lp _ hVf.out.rd1 (by rw [hT.out]; exact hmo.out)).mono ?_
              rintro r w8 ⟨rfl, hb8⟩
              have hb9 := hb8.alloc hb8.size (boxV 0 0 (.slice none 0 0) 0 47)
              have hV9 := Lib.hid (hVf.out.grow hb9)
              have hB9 := Lib.hid (hBf.out.trans (hb9.mono hBf.out.size))
              have hx9 := Lib.hid (at_new w8 (boxV 0 0 (.slice none 0 0) 0 47))
              obtain ⟨n8, hn8⟩ : ∃ n8, n8 = w8.heap.size := ⟨_, rfl⟩
              clear hb8 hb9 hVf hBf
              go_wp2_with fail
              refine (vBest_no b2 view n lu _ hV9.out.rd2 (by rw [hTu.out]; exact hmo.out)).mono ?_
              rintro r w10 ⟨rfl, hb10⟩
              have hb11 := hb10.alloc hb10.size (boxV 0 0 (.slice none 0 0) 0 47)
              have hV11 := Lib.hid (hV9.out.grow hb11)
              have hB11 := Lib.hid (hB9.out.trans (hb11.mono hB9.out.size))
              have hx9 := Lib.hid (at_below hx9.out hb11)
              have hx11 := Lib.hid (at_new w10 (boxV 0 0 (.slice none 0 0) 0 47))
              obtain ⟨n10, hn10⟩ : ∃ n10, n10 = w10.heap.size := ⟨_, rfl⟩
              rw [← hn8] at hx9
              rw [← hn10] at hx11
              replace hn8 := Lib.hid hn8
              replace hn10 := Lib.hid hn10
              clear hb10 hb11 hV9 hB9
              go_wp2_with fail
              rw [← hn8.out, ← hn10.out]
              refine (vTeam_any b1 view n lp _ hV11.out.rd1).mono ?_
              rintro r w12 ⟨rfl, hb12⟩
              rw [hT.out]
              have hV12 := Lib.hid (hV11.out.grow hb12)
              have hB12 := Lib.hid (hB11.out.trans (hb12.mono hB11.out.size))
              have hx9 := Lib.hid (at_below hx9.out hb12)
              have hx11 := Lib.hid (at_below hx11.out hb12)
              clear hb12 hV11 hB11
              go_wp2_with fail
              refine (vTeam_any b2 view n lu _ hV12.out.rd2).mono ?_
              rintro r w13 ⟨rfl, hb13⟩
              rw [hTu.out]
              have hB13 := Lib.hid (hB12.out.trans (hb13.mono hB12.out.size))
              have hx9 := Lib.hid (at_below hx9.out hb13)
              have hx11 := Lib.hid (at_below hx11.out hb13)
              have heq := Lib.hid (eqAll_refl [])
              clear hb13 hV12 hB12
              have e0 := cell_at hx9.out 0
              have e1 := cell_at hx9.out 1
              have e2 := cell_at hx9.out 2
              have e3 := cell_at hx9.out 3
              have f0 := cell_at hx11.out 0
              have f1 := cell_at hx11.out 1
              have f2 := cell_at hx11.out 2
              have f3 := cell_at hx11.out 3
              simp only [List.getElem?_toArray, List.getElem?_cons_zero, List.getElem?_cons_succ] at e0 e1 e2 e3 f0 f1 f2 f3
              go_wp2_with fail
              refine (r12EqAll_any _ _ [] [] _ (rdE_nil0 _ _ _ (by decide)) (rdE_nil0 _ _ _ (by decide))).mono ?_
              rintro r w14 ⟨rfl, hb14⟩
              rw [heq.out]
              have hB14 := hB13.out.trans (hb14.mono hB13.out.size)
              go_wp2
              go_ret
              exact ⟨rfl, hB14⟩
            · have hl0 : 0 < lp.length := by
                rcases Nat.eq_zero_or_pos lp.length with h | h
                · have e : lp = [] := List.eq_nil_of_length_eq_zero h
                  have h1 := hT.out
                  rw [e] at h1
                  have h2 : T = 0 := h1.symm
                  have h3 := hmo.out
                  rw [h2] at h3
                  have h4 : lenT 0 = 0 := by decide
                  simp [mostT, h4] at h3
                  omega
                · exact h
              have hl0u : 0 < lu.length := by have := hle.out; omega
              obtain ⟨Y, hY⟩ : ∃ Y, (bestTo lp[0] lp).v = Y := ⟨_, rfl⟩
              have hYu : (bestTo lu[0] lu).v = Y := by rw [← hY]; exact (hbe.out hl0 hl0u).symm
              obtain ⟨C, hC⟩ : ∃ C, min (comTo lp) (Y.lg.length : Int) = C := ⟨_, rfl⟩
              have hCu : min (comTo lu) (Y.lg.length : Int) = C := by rw [← hco.out, hC]
              replace hY := Lib.hid hY
              replace hYu := Lib.hid hYu
              replace hC := Lib.hid hC
              replace hCu := Lib.hid hCu
              go_wp2_with fail
              refine (vBest_yes b1 view n lp _ _ _ _ hVf.out.rd1 (by rw [hT.out]; exact hmo.out) hl0 h6p.out rfl rfl rfl).mono ?_
              rintro r w8 ⟨s8, rfl, ho8, hb8⟩
              rw [hY.out] at ho8 ⊢
              rw [hC.out]
              obtain ⟨a8, c8, rfl⟩ := ho8.rd.len
              have hb9 := hb8.alloc hb8.size (boxV Y.frm Y.last (.slice a8 Y.lg.length c8) C 47)
              have hV9 := Lib.hid (hVf.out.grow hb9)
              have hB9 := Lib.hid (hBf.out.trans (hb9.mono hBf.out.size))
              have hx9 := Lib.hid (at_new w8 (boxV Y.frm Y.last (.slice a8 Y.lg.length c8) C 47))
              obtain ⟨n8, hn8⟩ : ∃ n8, n8 = w8.heap.size := ⟨_, rfl⟩
              have hR9 := Lib.hid (ho8.rd.grow ((Below.refl w8.heap.size w8).alloc (Nat.le_refl _) (boxV Y.frm Y.last (.slice a8 Y.lg.length c8) C 47)))
              clear ho8
              clear hb8 hb9 hVf hBf
              go_wp2_with fail
              refine (vBest_yes b2 view n lu _ _ _ _ hV9.out.rd2 (by rw [hTu.out]; exact hmo.out) hl0u h6u.out rfl rfl rfl).mono ?_
              rintro r w10 ⟨s10, rfl, ho10, hb10⟩
              rw [hYu.out] at ho10 ⊢
              rw [hCu.out]
              obtain ⟨a10, c10, rfl⟩ := ho10.rd.len
              have hb11 := hb10.alloc hb10.size (boxV Y.frm Y.last (.slice a10 Y.lg.length c10) C 47)
              have hV11 := Lib.hid (hV9.out.grow hb11)
              have hB11 := Lib.hid (hB9.out.trans (hb11.mono hB9.out.size))
              have hx9 := Lib.hid (at_below hx9.out hb11)
              have hx11 := Lib.hid (at_new w10 (boxV Y.frm Y.last (.slice a10 Y.lg.length c10) C 47))
              obtain ⟨n10, hn10⟩ : ∃ n10, n10 = w10.heap.size := ⟨_, rfl⟩
              rw [← hn8] at hx9
              rw [← hn10] at hx11
              replace hn8 := Lib.hid hn8
              replace hn10 := Lib.hid hn10
              have hR11 := Lib.hid (hR9.out.grow hb11)
              have hS11 := Lib.hid (ho10.rd.grow ((Below.refl w10.heap.size w10).alloc (Nat.le_refl _) (boxV Y.frm Y.last (.slice a10 Y.lg.length c10) C 47)))
              clear hR9 ho10
              clear hb10 hb11 hV9 hB9
              go_wp2_with fail
              rw [← hn8.out, ← hn10.out]
              refine (vTeam_any b1 view n lp _ hV11.out.rd1).mono ?_
              rintro r w12 ⟨rfl, hb12⟩
              rw [hT.out]
              have hV12 := Lib.hid (hV11.out.grow hb12)
              have hB12 := Lib.hid (hB11.out.trans (hb12.mono hB11.out.size))
              have hx9 := Lib.hid (at_below hx9.out hb12)
              have hx11 := Lib.hid (at_below hx11.out hb12)
              have hR12 := Lib.hid (hR11.out.grow hb12)
              have hS12 := Lib.hid (hS11.out.grow hb12)
              clear hR11 hS11
              clear hb12 hV11 hB11
              go_wp2_with fail
              refine (vTeam_any b2 view n lu _ hV12.out.rd2).mono ?_
              rintro r w13 ⟨rfl, hb13⟩
              rw [hTu.out]
              have hB13 := Lib.hid (hB12.out.trans (hb13.mono hB12.out.size))
              have hx9 := Lib.hid (at_below hx9.out hb13)
              have hx11 := Lib.hid (at_below hx11.out hb13)
              have hR13 := Lib.hid (hR12.out.grow hb13)
              have hS13 := Lib.hid (hS12.out.grow hb13)
              clear hR12 hS12
              have heq := Lib.hid (eqAll_refl Y.lg)
              clear hb13 hV12 hB12
              have e0 := cell_at hx9.out 0
              have e1 := cell_at hx9.out 1
              have e2 := cell_at hx9.out 2
              have e3 := cell_at hx9.out 3
              have f0 := cell_at hx11.out 0
              have f1 := cell_at hx11.out 1
              have f2 := cell_at hx11.out 2
              have f3 := cell_at hx11.out 3
              simp only [List.getElem?_toArray, List.getElem?_cons_zero, List.getElem?_cons_succ] at e0 e1 e2 e3 f0 f1 f2 f3
              go_wp2_with fail
              refine (r12EqAll_any _ _ Y.lg Y.lg _ hR13.out hS13.out).mono ?_
              rintro r w14 ⟨rfl, hb14⟩
              rw [heq.out]
              have hB14 := hB13.out.trans (hb14.mono hB13.out.size)
              go_wp2
              go_ret
              exact ⟨rfl, hB14⟩
    · have hgood := hgood.out
      have h60 := h60.out
      have hlen2 : ol.length ≤ 20 := by omega
      obtain ⟨F, D, r1, r2, r3, r4, r5⟩ := hP.out
      clear hP hbel hlen hw4r
      obtain ⟨wc, rfl⟩ : ∃ x, x = wr := ⟨_, rfl⟩
      obtain ⟨a1, c1, rfl, hm1, hM1, ha1⟩ := r3.rd
      unfold maxLen at hM1
      have hsz5 := r5.size
      have hBm := hB4.out.trans (r5.below hB4.out.size fun k hk => by omega)
      have hlogs : ∀ x ∈ ol, ∀ k, x.s.ownBlock = some k → w4.heap.size ≤ k ∧ k < wc.heap.size := fun x hx k hk => r1 k (.inr ((r3.2.2 x hx).2 k hk))
      have hrowA : ∀ g off, a1 = some ⟨g, off, none⟩ → w4.heap.size ≤ g ∧ g < wc.heap.size := fun g off e => r1 g (.inl (r3.2.1 g (by rw [e]; rfl)))
      have hVV : VV 78 47 78 47 (fun j => w4.heap.size ≤ j ∧ j < wc.heap.size) w wc b1 b2 view n [] [] := by
        refine ⟨fun k => k = b1, fun _ => False, fun k => k = b2, fun _ => False, ?_, ?_, fun _ _ h => h, ?_, hvt4.out.chg r5 (fun k hk e => ?_) (fun _ h => h.elim), hvu4.out.chg r5 (fun k hk e => ?_) (fun _ h => h.elim)⟩
        · rintro k (rfl | h | rfl | h)
          · omega
          · exact h.elim
          · omega
          · exact h.elim
        · rintro k rfl
          exact ⟨by omega, fun h => h⟩
        · intro k hk
          exact ⟨by omega, by omega, by have := hB4.out.size; omega, hk.2⟩
        · have : k = b1 := hk; have : k = sb := e; omega
        · have : k = b2 := hk; have : k = sb := e; omega
      have hd := goodV_nodup hgood
      have hdr : (((ol.map fun y => y.v).reverse).map fun x => x.frm).Nodup := by rw [List.map_reverse]; exact List.pairwise_reverse.2 (List.Pairwise.imp (fun h e => h e.symm) hd)
      obtain ⟨L, hL⟩ : ∃ L, (ol.map fun y => y.v) = L := ⟨_, rfl⟩
      have hLl : L.length = ol.length := by rw [← hL]; simp
      have hLr : L.reverse.length = ol.length := by rw [List.length_reverse]; exact hLl
      have hL60 : ∀ x ∈ L, x.lg.length ≤ 60 := by
        rw [← hL]
        intro x hx
        obtain ⟨z, hz, e⟩ := List.mem_map.1 hx
        rw [← e]; exact h60 z hz
      have hTw : Two w w4 wc wc b1 b2 view n L 0 [] [] := ⟨hVV, by simp, by simp, Chg.refl _ _⟩
      rw [hL] at hd hdr
      replace hL := Lib.hid hL
      replace hd := Lib.hid hd
      replace hdr := Lib.hid hdr
      replace hTw := Lib.hid hTw
      replace hBm := Lib.hid hBm
      replace hlogs := Lib.hid hlogs
      replace hrowA := Lib.hid hrowA
      replace ha1 := Lib.hid ha1
      replace hLl := Lib.hid hLl
      replace hLr := Lib.hid hLr
      replace hL60 := Lib.hid hL60
      clear hVV r1 r2 r3 r4 r5 hgood h60 hvt4 hvu4
      go_wp2
      go_loopw [14] (fun i wr => ∃ (k : Nat) (lp lu : List VtS), k ≤ ol.length ∧ i = .int .i64 k ∧ Two w w4 wc wr b1 b2 view n L k lp lu) (fun i _ => ol.length - (intOf i).toNat)
      case atStart => exact ⟨0, [], [], Nat.zero_le _, rfl, hTw.out⟩
      case round =>
        obtain ⟨k, lp, lu, hk, rfl, hTq⟩ := hrel
        clear hTw
        have hwq := hTq.chg.size
        have hBq := Lib.hid (hBm.out.trans (hTq.chg.below hBm.out.size fun k hk => hk.1))
        by_cases hlt : k < ol.length
        · have hlt2 : ol.length - 1 - k < ol.length := by omega
          obtain ⟨g, off, rfl, hc⟩ := ha1.out (by omega)
          have hgA := hrowA.out g off rfl
          have hk1 := cVt.chg (hc k hlt) hTq.chg (fun h => h.2 hgA) (fun j hj h => h.2 (hlogs.out _ (List.getElem_mem hlt) j hj))
          have hk2 := cVt.chg (hc _ hlt2) hTq.chg (fun h => h.2 hgA) (fun j hj h => h.2 (hlogs.out _ (List.getElem_mem hlt2) j hj))
          have hs2 : Hid (∀ j, ol[ol.length - 1 - k].s.ownBlock = some j → w4.heap.size ≤ j ∧ j < wc.heap.size) := Lib.hid fun j hj => hlogs.out _ (List.getElem_mem hlt2) j hj
          have e1 : L[k]'(by have := hLl.out; omega) = ol[k].v := by
            have := hL.out
            subst this
            simp
          have e2 : L.reverse[k]'(by have := hLr.out; omega) = ol[ol.length - 1 - k].v := by
            have := hL.out
            subst this
            simp [List.getElem_reverse]
          obtain ⟨j, hj⟩ : ∃ j : Nat, j = ol.length - 1 - k := ⟨_, rfl⟩
          have hjI : (ol.length : Int) - 1 - (k : Int) = (j : Int) := by omega
          simp only [← hj] at hk2 hs2 e2 hlt2
          have hjl : j < ol.length := hlt2
          generalize ol[k] = x at hk1 e1
          generalize ol[j] = z at hk2 hs2 e2
          clear hc hlt2
          replace hj := Lib.hid hj
          obtain ⟨c0, c1, c2, c3, c4⟩ := hk1
          obtain ⟨sa, sc, hsv⟩ := c4.len
          rw [hsv] at c2 c4
          clear hsv
          have hlp := len_filter hTq.p
          have hlu := len_filter hTq.u
          have hlp100 : lp.length ≤ 100 := by omega
          have hlu100 : lu.length ≤ 100 := by omega
          have hwwq : w.heap.size ≤ wr.heap.size := hBq.out.size
          replace c4 := Lib.hid c4
          replace hTq := Lib.hid hTq
          replace hk2 := Lib.hid hk2
          replace e1 := Lib.hid e1
          replace e2 := Lib.hid e2
          go_wp2_with fail
          refine (vAdd_v2 hTq.out.vv hwwq x.v _ c4.out hlp100).mono ?_
          rintro r w5 ⟨rfl, lp1, hV5, hm5, hc5⟩
          have hk25 := cVt.chg hk2.out hc5 (fun h => h.2 hgA) (fun j hj h => h.2 (hs2.out j hj))
          have hww5 : w.heap.size ≤ w5.heap.size := Nat.le_trans hwwq hc5.size
          have hcg5 := Lib.hid (hTq.out.chg.more hc5 (fun i hi => .inl hi))
          replace hV5 := Lib.hid hV5
          replace hm5 := Lib.hid hm5
          clear c0 c1 c2 c3 c4 hc5 hk2
          obtain ⟨c0, c1, c2, c3, c4⟩ := hk25
          obtain ⟨sa2, sc2, hsv⟩ := c4.len
          rw [hsv] at c2 c4
          clear hsv
          replace c4 := Lib.hid c4
          go_wp2_with fail
          refine (vAdd_v2 hV5.out.swap hww5 z.v _ c4.out hlu100).mono ?_
          rintro r w6 ⟨rfl, lu1, hV6, hm6, hc6⟩
          have hT6 : Two w w4 wc w6 b1 b2 view n L (k + 1) lp1 lu1 := ⟨hV6.swap, gather_step hd.out (by have := hLl.out; omega) hTq.out.p (by rw [e1.out]; exact hm5.out), gather_step hdr.out (by have := hLr.out; omega) hTq.out.u (by rw [e2.out]; exact hm6), hcg5.out.more hc6 (fun i hi => .inl hi)⟩
          replace hT6 := Lib.hid hT6
          clear c0 c1 c2 c3 c4 hV6 hm6 hc6
          go_wp2
          go_roundw
          case rel => exact ⟨k + 1, lp1, lu1, by omega, by go_num, hT6.out⟩
          case measure => simp [intOf]; omega
        · obtain rfl : k = ol.length := by omega
          have hp := hTq.p
          have hu := hTq.u
          rw [← hLl.out, List.take_length] at hp
          rw [← hLr.out, List.take_length] at hu
          obtain ⟨ht, hco, hle, hbe⟩ := order_same hd.out hp hu
          have h6p := Lib.hid (all_filter (fun v => v.lg.length ≤ 60) hp hL60.out)
          have h6u := Lib.hid (all_filter (fun v => v.lg.length ≤ 60) hu fun x hx => hL60.out x (List.mem_reverse.1 hx))
          have hVf := Lib.hid hTq.vv
          have hBf := hBq
          obtain ⟨T, hT⟩ : ∃ T, teamV lp = T := ⟨_, rfl⟩
          have hTu : teamV lu = T := by rw [← ht, hT]
          have hTl : T < 128 := by rw [← hT]; exact teamV_lt _
          obtain ⟨mo, hmo⟩ : ∃ mo, mostT T n = mo := ⟨_, rfl⟩
          clear ht hp hu hTq
          replace hT := Lib.hid hT
          replace hTu := Lib.hid hTu
          replace hmo := Lib.hid hmo
          replace hco := Lib.hid hco
          replace hle := Lib.hid hle
          replace hbe := Lib.hid hbe
          cases mo
          · go_wp2_with fail
            refine (vBest_no b1 view n lp _ hVf.out.rd1 (by rw [hT.out]; exact hmo.out)).mono ?_
            rintro r w8 ⟨rfl, hb8⟩
            have hb9 := hb8.alloc hb8.size (boxV 0 0 (.slice none 0 0) 0 47)
            have hV9 := Lib.hid (hVf.out.grow hb9)
            have hB9 := Lib.hid (hBf.out.trans (hb9.mono hBf.out.size))
            have hx9 := Lib.hid (at_new w8 (boxV 0 0 (.slice none 0 0) 0 47))
            obtain ⟨n8, hn8⟩ : ∃ n8, n8 = w8.heap.size := ⟨_, rfl⟩
            clear hb8 hb9 hVf hBf
            go_wp2_with fail
            refine (vBest_no b2 view n lu _ hV9.out.rd2 (by rw [hTu.out]; exact hmo.out)).mono ?_
            rintro r w10 ⟨rfl, hb10⟩
            have hb11 := hb10.alloc hb10.size (boxV 0 0 (.slice none 0 0) 0 47)
            have hV11 := Lib.hid (hV9.out.grow hb11)
            have hB11 := Lib.hid (hB9.out.trans (hb11.mono hB9.out.size))
            have hx9 := Lib.hid (at_below hx9.out hb11)
            have hx11 := Lib.hid (at_new w10 (boxV 0 0 (.slice none 0 0) 0 47))
            obtain ⟨n10, hn10⟩ : ∃ n10, n10 = w10.heap.size := ⟨_, rfl⟩
            rw [← hn8] at hx9
            rw [← hn10] at hx11
            replace hn8 := Lib.hid hn8
            replace hn10 := Lib.hid hn10
            clear hb10 hb11 hV9 hB9
            go_wp2_with fail
            rw [← hn8.out, ← hn10.out]
            refine (vTeam_any b1 view n lp _ hV11.out.rd1).mono ?_
            rintro r w12 ⟨rfl, hb12⟩
            rw [hT.out]
            have hV12 := Lib.hid (hV11.out.grow hb12)
            have hB12 := Lib.hid (hB11.out.trans (hb12.mono hB11.out.size))
            have hx9 := Lib.hid (at_below hx9.out hb12)
            have hx11 := Lib.hid (at_below hx11.out hb12)
            clear hb12 hV11 hB11
            go_wp2_with fail
            refine (vTeam_any b2 view n lu _ hV12.out.rd2).mono ?_
            rintro r w13 ⟨rfl, hb13⟩
            rw [hTu.out]
            have hB13 := Lib.hid (hB12.out.trans (hb13.mono hB12.out.size))
            have hx9 := Lib.hid (at_below hx9.out hb13)
            have hx11 := Lib.hid (at_below hx11.out hb13)
            have heq := Lib.hid (eqAll_refl [])
            clear hb13 hV12 hB12
            have e0 := cell_at hx9.out 0
            have e1 := cell_at hx9.out 1
            have e2 := cell_at hx9.out 2
            have e3 := cell_at hx9.out 3
            have f0 := cell_at hx11.out 0
            have f1 := cell_at hx11.out 1
            have f2 := cell_at hx11.out 2
            have f3 := cell_at hx11.out 3
            simp only [List.getElem?_toArray, List.getElem?_cons_zero, List.getElem?_cons_succ] at e0 e1 e2 e3 f0 f1 f2 f3
            go_wp2_with fail
            refine (r12EqAll_any _ _ [] [] _ (rdE_nil0 _ _ _ (by decide)) (rdE_nil0 _ _ _ (by decide))).mono ?_
            rintro r w14 ⟨rfl, hb14⟩
            rw [heq.out]
            have hB14 := hB13.out.trans (hb14.mono hB13.out.size)
            go_wp2
            go_ret
            exact ⟨rfl, hB14⟩
          · have hl0 : 0 < lp.length := by
              rcases Nat.eq_zero_or_pos lp.length with h | h
              · have e : lp = [] := List.eq_nil_of_length_eq_zero h
                have h1 := hT.out
                rw [e] at h1
                have h2 : T = 0 := h1.symm
                have h3 := hmo.out
                rw [h2] at h3
                have h4 : lenT 0 = 0 := by decide
                simp [mostT, h4] at h3
                omega
              · exact h
            have hl0u : 0 < lu.length := by have := hle.out; omega
            obtain ⟨Y, hY⟩ : ∃ Y, (bestTo lp[0] lp).v = Y := ⟨_, rfl⟩
            have hYu : (bestTo lu[0] lu).v = Y := by rw [← hY]; exact (hbe.out hl0 hl0u).symm
            obtain ⟨C, hC⟩ : ∃ C, min (comTo lp) (Y.lg.length : Int) = C := ⟨_, rfl⟩
            have hCu : min (comTo lu) (Y.lg.length : Int) = C := by rw [← hco.out, hC]
            replace hY := Lib.hid hY
            replace hYu := Lib.hid hYu
            replace hC := Lib.hid hC
            replace hCu := Lib.hid hCu
            go_wp2_with fail
            refine (vBest_yes b1 view n lp _ _ _ _ hVf.out.rd1 (by rw [hT.out]; exact hmo.out) hl0 h6p.out rfl rfl rfl).mono ?_
            rintro r w8 ⟨s8, rfl, ho8, hb8⟩
            rw [hY.out] at ho8 ⊢
            rw [hC.out]
            obtain ⟨a8, c8, rfl⟩ := ho8.rd.len
            have hb9 := hb8.alloc hb8.size (boxV Y.frm Y.last (.slice a8 Y.lg.length c8) C 47)
            have hV9 := Lib.hid (hVf.out.grow hb9)
            have hB9 := Lib.hid (hBf.out.trans (hb9.mono hBf.out.size))
            have hx9 := Lib.hid (at_new w8 (boxV Y.frm Y.last (.slice a8 Y.lg.length c8) C 47))
            obtain ⟨n8, hn8⟩ : ∃ n8, n8 = w8.heap.size := ⟨_, rfl⟩
            have hR9 := Lib.hid (ho8.rd.grow ((Below.refl w8.heap.size w8).alloc (Nat.le_refl _) (boxV Y.frm Y.last (.slice a8 Y.lg.length c8) C 47)))
            clear ho8
            clear hb8 hb9 hVf hBf
            go_wp2_with fail
            refine (vBest_yes b2 view n lu _ _ _ _ hV9.out.rd2 (by rw [hTu.out]; exact hmo.out) hl0u h6u.out rfl rfl rfl).mono ?_
            rintro r w10 ⟨s10, rfl, ho10, hb10⟩
            rw [hYu.out] at ho10 ⊢
            rw [hCu.out]
            obtain ⟨a10, c10, rfl⟩ := ho10.rd.len
            have hb11 := hb10.alloc hb10.size (boxV Y.frm Y.last (.slice a10 Y.lg.length c10) C 47)
            have hV11 := Lib.hid (hV9.out.grow hb11)
            have hB11 := Lib.hid (hB9.out.trans (hb11.mono hB9.out.size))
            have hx9 := Lib.hid (at_below hx9.out hb11)
            have hx11 := Lib.hid (at_new w10 (boxV Y.frm Y.last (.slice a10 Y.lg.length c10) C 47))
            obtain ⟨n10, hn10⟩ : ∃ n10, n10 = w10.heap.size := ⟨_, rfl⟩
            rw [← hn8] at hx9
            rw [← hn10] at hx11
            replace hn8 := Lib.hid hn8
            replace hn10 := Lib.hid hn10
            have hR11 := Lib.hid (hR9.out.grow hb11)
            have hS11 := Lib.hid (ho10.rd.grow ((Below.refl w10.heap.size w10).alloc (Nat.le_refl _) (boxV Y.frm Y.last (.slice a10 Y.lg.length c10) C 47)))
            clear hR9 ho10
            clear hb10 hb11 hV9 hB9
            go_wp2_with fail
            rw [← hn8.out, ← hn10.out]
            refine (vTeam_any b1 view n lp _ hV11.out.rd1).mono ?_
            rintro r w12 ⟨rfl, hb12⟩
            rw [hT.out]
            have hV12 := Lib.hid (hV11.out.grow hb12)
            have hB12 := Lib.hid (hB11.out.trans (hb12.mono hB11.out.size))
            have hx9 := Lib.hid (at_below hx9.out hb12)
            have hx11 := Lib.hid (at_below hx11.out hb12)
            have hR12 := Lib.hid (hR11.out.grow hb12)
            have hS12 := Lib.hid (hS11.out.grow hb12)
            clear hR11 hS11
            clear hb12 hV11 hB11
            go_wp2_with fail
            refine (vTeam_any b2 view n lu _ hV12.out.rd2).mono ?_
            rintro r w13 ⟨rfl, hb13⟩
            rw [hTu.out]
            have hB13 := Lib.hid (hB12.out.trans (hb13.mono hB12.out.size))
            have hx9 := Lib.hid (at_below hx9.out hb13)
            have hx11 := Lib.hid (at_below hx11.out hb13)
            have hR13 := Lib.hid (hR12.out.grow hb13)
            have hS13 := Lib.hid (hS12.out.grow hb13)
            clear hR12 hS12
            have heq := Lib.hid (eqAll_refl Y.lg)
            clear hb13 hV12 hB12
            have e0 := cell_at hx9.out 0
            have e1 := cell_at hx9.out 1
            have e2 := cell_at hx9.out 2
            have e3 := cell_at hx9.out 3
            have f0 := cell_at hx11.out 0
            have f1 := cell_at hx11.out 1
            have f2 := cell_at hx11.out 2
            have f3 := cell_at hx11.out 3
            simp only [List.getElem?_toArray, List.getElem?_cons_zero, List.getElem?_cons_succ] at e0 e1 e2 e3 f0 f1 f2 f3
            go_wp2_with fail
            refine (r12EqAll_any _ _ Y.lg Y.lg _ hR13.out hS13.out).mono ?_
            rintro r w14 ⟨rfl, hb14⟩
            rw [heq.out]
            have hB14 := hB13.out.trans (hb14.mono hB13.out.size)
            go_wp2
            go_ret
            exact ⟨rfl, hB14⟩

/-! the row's step, written out by law.py -/
set_option maxRecDepth 100000 in
theorem lifted (os : Os) (started : os.Started) (H : Type) (enc : TypeId × Value → H) :
    ReturnsInHanded {} Try.checked os 7 .any (Rows.voteOrderSpec.pre6 enc Try.prog Try.f7 Rows.voteOrderRow.domain false) (Rows.voteOrderSpec.post enc Try.prog Try.f7 false true false false) := by
  refine returnsInHanded_of_change (C := Try.checked) own started (by kernel_rfl) Try.func7
    (ChangeSpec.witness6 (enc := enc) (C := Try.checked) false ⟨#[], #[.int .i64 0, .int .i64 0, .slice none 0 0], []⟩ 8 (by kernel_rfl) (by kernel_rfl) (by kernel_rfl) (by kernel_rfl)) ?_
  intro W base args ds gs before hval0 hW hcnd _
  have hval : ∀ (j : Nat) t v, Try.f7.params[j]? = some t → args[j]? = some v → Value.okWide Try.prog W .any base t v := hval0
  have hW' := hW
  obtain ⟨p, q, hA0, hV, rfl, hfz, hnd⟩ := hW
  have hA : DataW.TrodAll enc Try.prog W 0 (fun _ => true) true Try.f7.params.toList args.toList ds p := hA0
  rw [Try.params7] at hA hval
  obtain ⟨v0, vs0, d0, ds0, p0, q0, hargs, rfl, rfl, h0, r0⟩ := trodAll_cons hA
  obtain ⟨v1, vs1, d1, ds1, p1, q1, rfl, rfl, rfl, h1, r1⟩ := trodAll_cons r0
  obtain ⟨v2, vs2, d2, ds2, p2, q2, rfl, rfl, rfl, h2, r2⟩ := trodAll_cons r1
  obtain ⟨rfl, rfl, rfl⟩ := trodAll_nil r2
  obtain rfl : args = #[v0, v1, v2] := by cases args; simp_all
  obtain ⟨rfl, rfl⟩ := trodVars_none hV
  have k0 := h0
  have lt0 : ∀ x ∈ p0, x.block < W.heap.size := by obtain ⟨m, hm⟩ := k0; exact DataW.trod_lt m _ _ _ hm
  have k1 := h1
  have lt1 : ∀ x ∈ p1, x.block < W.heap.size := by obtain ⟨m, hm⟩ := k1; exact DataW.trod_lt m _ _ _ hm
  have k2 := h2
  have lt2 : ∀ x ∈ p2, x.block < W.heap.size := by obtain ⟨m, hm⟩ := k2; exact DataW.trod_lt m _ _ _ hm
  obtain ⟨a0, rfl, rfl, rfl, w0⟩ := open_int Try.underlying2 (hval 0 2 v0 rfl rfl) h0
  have w0 := bounds_i64 w0
  obtain ⟨a1, rfl, rfl, rfl, w1⟩ := open_int Try.underlying3 (hval 1 3 v1 rfl rfl) h1
  have w1 := bounds_i64 w1
  obtain ⟨l2, w2, b2⟩ := slvote_open (hval 2 39 v2 rfl rfl) h2
  clear hA0 hval0
  simp only [List.append_nil] at hW'
  refine (walk a0 a1 v2 l2 W w0 w1 w2 b2).mono fun e W' ⟨he, bel⟩ => ?_
  subst he
  exact ⟨_, rfl, _, _, _, [], _, [], hW', trodAll_mk1 (shut_bool Try.underlying4 _), (trodAll_cons_mk (Below.trod laidOut (by kernel_rfl) (of_decide_eq_true (by kernel_rfl)) k0 bel lt0) (trodAll_cons_mk (Below.trod laidOut (by kernel_rfl) (of_decide_eq_true (by kernel_rfl)) k1 bel lt1) (trodAll_cons_mk (Below.trod laidOut (by kernel_rfl) (of_decide_eq_true (by kernel_rfl)) k2 bel lt2) trodAll_mk0))), rfl, bel.frame _, fun h => by cases h⟩

theorem over : Rows.voteOrderRow.holds Try.pinned (OpenSpec.ofChange Rows.voteOrderSpec) :=
  OpenClaim.holds_of_wide 7 Try.f7 rfl rfl rfl rfl rfl rfl rfl ⟨rfl, rfl, rfl, rfl, rfl⟩ rfl rfl rfl rfl rfl (by kernel_rfl) Try.func7 (by kernel_rfl)
    (of_decide_eq_true (by kernel_rfl)) (by unfold Func.isWrapper; first | (rw [if_pos (by decide +kernel)]; kernel_rfl) | (rw [if_neg (by decide +kernel)]; exact ⟨rfl, rfl⟩))
    (fun os started H enc _ => lifted os started H enc)

theorem proved : Rows.VoteOrderSaid := over
end Go.Proofs.Ytacchkmdheglaaa.lawVoteOrder
