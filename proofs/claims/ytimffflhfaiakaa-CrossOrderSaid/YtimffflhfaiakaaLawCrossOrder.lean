/- The order of ranges says nothing. -/
import Derived.Test.YtimffflhfaiakaaCrF
import Derived.Test.YtimffflhfaiakaaFrame
namespace Go.Proofs.Ytimffflhfaiakaa.lawCrossOrder
open Go.ChangeShapes Go.WideShapes Go.ChangeAt Go.RowKit
set_option linter.unusedVariables false

theorem starts_rev (l : List Rg) : startsR l.reverse = startsR l := by
  have h : (rawS l.reverse).Perm (rawS l) := List.Perm.flatMap_right _ (List.reverse_perm l)
  have : sortI (rawS l.reverse) = sortI (rawS l) :=
    List.Perm.eq_of_pairwise (le := (· ≤ ·)) (fun a b _ _ h1 h2 => Int.le_antisymm h1 h2) (sortI_sorted _) (sortI_sorted _) ((sortI_perm _).trans (h.trans (sortI_perm _).symm))
  unfold startsR
  rw [this]
theorem cnt_rev (l : List Rg) (t : Int) : cntR l.reverse t = cntR l t := List.countP_reverse
theorem best_rev (l : List Rg) : bestR l.reverse = bestR l := by
  have : bestStep l.reverse = bestStep l := by
    funext a r; unfold bestStep; rw [cnt_rev]
  unfold bestR
  rw [starts_rev, this]
theorem most_rev (l : List Rg) (n : Int) : mostR l.reverse n = mostR l n := by
  have : manyR l.reverse n = manyR l n := by
    unfold manyR; rw [starts_rev]; simp only [cnt_rev]
  unfold mostR
  rw [this]
theorem okR_rev {l : List Rg} (h : okR l) : okR l.reverse := fun r hr => h r (List.mem_reverse.1 hr)
theorem rev_get {l : List Rg} {k : Nat} (h : k < l.length) : l.reverse.take (k + 1) = l.reverse.take k ++ [l[l.length - 1 - k]'(by omega)] := by
  rw [List.take_succ_eq_append_getElem (by simpa using h), List.getElem_reverse]

set_option maxRecDepth 100000 in
set_option maxHeartbeats 8000000 in
theorem walk (v : Value) (l : List Rg) (n : Int) (w : World) (hr : rdR w v l) (hok : okR l) (hn : I64 n) :
    Calls Try.prog 5 #[v, .int .i64 n] w fun e w' => e = .returned (.bool true) ∧ Below w.heap.size w w' := by
  obtain ⟨i0, hi, hz0, hz1, hz2⟩ := info_parts infoRange
  replace hi := Lib.hid hi
  replace hr := Lib.hid hr
  have hB := Lib.hid (Below.refl w.heap.size w)
  go_enter Try.func5, Try.ntmps5
  go_wp2_with fail
  refine (b10_any _).mono ?_
  rintro r w1 ⟨rfl, hb1⟩
  replace hB := Lib.hid (hB.out.trans (hb1.mono hB.out.size))
  replace hr := Lib.hid (hr.out.grow hb1)
  clear hb1
  go_wp2_with fail
  refine (of10_any v l _ hr.out).mono ?_
  rintro r w2 ⟨v2, u, rfl, hr2, hu, hb2⟩
  clear hr
  replace hB := Lib.hid (hB.out.trans (hb2.mono hB.out.size))
  clear hb2
  have hok2 := okR_take hok 12
  have hl12 : (l.take 12).length ≤ 12 := by rw [List.length_take]; omega
  generalize l.take 12 = L at hr2 hok2 hl12 hu
  clear hok
  have hbR := best_rev L
  have hmR := most_rev L n
  have hokR := okR_rev hok2
  obtain ⟨⟨⟨bl, bh⟩, bn⟩, hbst⟩ : ∃ x, bestR L = x := ⟨_, rfl⟩
  obtain ⟨⟨⟨ml, mh⟩, mo⟩, hmst⟩ : ∃ x, mostR L n = x := ⟨_, rfl⟩
  rw [hbst] at hbR
  rw [hmst] at hmR
  replace hbR := Lib.hid hbR
  replace hmR := Lib.hid hmR
  replace hbst := Lib.hid hbst
  replace hmst := Lib.hid hmst
  have hrH := Lib.hid hr2
  obtain ⟨aL, cL, rfl, hmL, hML, hxL⟩ := hr2
  unfold maxLen at hML
  replace hxL := Lib.hid hxL
  replace hu := Lib.hid hu
  have hL63 : (L.length : Int) - 1 < 9223372036854775808 := by omega
  clear hu
  go_wp2
  go_loopw [6, 7] (fun s i wr => ∃ k : Nat, k ≤ L.length ∧ i = .int .i64 ((L.length : Int) - 1 - k) ∧ ownR wr w2.heap.size 28 s (L.reverse.take k) ∧ Below w2.heap.size w2 wr) (fun _ i _ => (intOf i + 1).toNat)
  case atStart => exact ⟨0, Nat.zero_le _, by simp, World.ownsRow_nil _ _ _ _, Below.refl _ _⟩
  case round =>
    obtain ⟨k, hk, rfl, hown, hbel⟩ := hrel
    have hsz := hbel.size
    by_cases hlt : k < L.length
    · obtain ⟨j, hj⟩ : ∃ j, L.length - 1 - k = j := ⟨_, rfl⟩
      obtain ⟨g, off, rfl, hc⟩ := hxL.out (by omega)
      have hjl : j < L.length := by omega
      have hck := cRg.grow _ _ _ _ _ (hc j hjl) hbel
      have hrng := rev_get hlt
      have hTl : (L.reverse.take k).length = k := by rw [List.length_take, List.length_reverse]; omega
      simp only [hj] at hrng
      clear hc
      generalize L[j] = x at hck hrng
      obtain ⟨lo, hh⟩ := x
      obtain ⟨c0, c1⟩ := hck
      dsimp only at c0 c1
      generalize L.reverse.take k = A at hown hrng hTl
      have hjk : (L.length : Int) - 1 - k = j := by omega
      rw [hjk]
      unfold ownR at hown
      rw [hTl] at hown
      replace hrng := Lib.hid hrng
      replace hTl := Lib.hid hTl
      replace hown := Lib.hid hown
      replace hbel := Lib.hid hbel
      have hk12 : k ≤ 12 := by omega
      go_wp2_with (first
        | (at_builtin; refine wpList_append_own _ rfl _ _ 22 rfl w2.heap.size 28 i0 (.agg #[.int .i64 0, .int .i64 0]) 2 16 Try.underlying22 hi.out hz0 hz1 hz2 rfl (by decide) _ _ _ rfl (World.ownsRow.alloc hown.out _) ⟨_, 0, none⟩ 1 1 (⟨lo, hh⟩ : Rg).cells rfl rfl ?c1 ?c2 ?c3 ?c4 ?c5 ?_))
      try (case c1 => exact World.news_of_block (cs := (⟨lo, hh⟩ : Rg).cells.toArray) (t := 28) (fr := (0, 0)) (heap_alloc_new wr _))
      case c2 => first | (intro u hu; simp at hu; rcases hu with rfl | rfl <;> rfl) | exact ⟨rfl, rfl⟩ | rfl | simp [Value.oneCell']
      case c3 => unfold maxLen; omega
      case c4 => omega
      case c5 => first | omega | (simp; omega)
      intro v7 w7 hown7 hgrow7 _
      have ho7 : ownR w7 w2.heap.size 28 v7 (L.reverse.take (k + 1)) := by rw [hrng.out]; exact ownR_snoc hTl.out.symm hown7
      have hB7 : Below w2.heap.size w2 w7 := (hbel.out.alloc hsz _).grown hgrow7 (by simp; omega) (fun k hk => (hown.out.lt k hk).1)
      replace ho7 := Lib.hid ho7
      replace hB7 := Lib.hid hB7
      clear hown7 hgrow7 hown hbel
      go_wp2
      go_roundw
      case rel => exact ⟨k + 1, by omega, by go_num, ho7.out, hB7.out⟩
      case measure => simp [intOf] <;> omega
    · obtain rfl : k = L.length := by omega
      rw [show L.reverse.take L.length = L.reverse by rw [← List.length_reverse, List.take_length]] at hown
      have hd := Lib.hid hown.rd
      have hrL := Lib.hid (hrH.out.grow hbel)
      replace hB := Lib.hid (hB.out.trans (hbel.mono hB.out.size))
      clear hown hbel hrH hxL
      go_wp2_with fail
      refine (xBest_any _ L _ hrL.out hok2 (by omega)).mono ?_
      rintro r w3 ⟨rfl, hb3⟩
      rw [hbst.out]
      replace hB := Lib.hid (hB.out.trans (hb3.mono hB.out.size))
      replace hrL := Lib.hid (hrL.out.grow hb3)
      replace hd := Lib.hid (hd.out.grow hb3)
      clear hb3
      obtain ⟨wa1, hwa1⟩ : ∃ W, W = w3.alloc (.cells #[.int .i64 bl, .int .i64 bh] 28) := ⟨_, rfl⟩
      have hba : Below w3.heap.size w3 wa1 := hwa1 ▸ (Below.refl _ _).alloc (Nat.le_refl _) _
      have hx1 : wa1.heap[w3.heap.size]? = some (.cells #[.int .i64 bl, .int .i64 bh] 28 (0, 0)) := hwa1 ▸ at_new _ _
      obtain ⟨n1, hn1⟩ : ∃ n, n = w3.heap.size := ⟨_, rfl⟩
      rw [← hn1] at hx1
      replace hx1 := Lib.hid hx1
      replace hB := Lib.hid (hB.out.trans (hba.mono hB.out.size))
      replace hrL := Lib.hid (hrL.out.grow hba)
      replace hd := Lib.hid (hd.out.grow hba)
      clear hba
      go_upto_region 11 with (fail)
      rw [← hwa1, ← hn1]
      clear hwa1
      replace hn1 := Lib.hid hn1
      go_wp2_with fail
      refine (xBest_any _ L.reverse _ hd.out hokR (by rw [List.length_reverse]; omega)).mono ?_
      rintro r w4 ⟨rfl, hb4⟩
      rw [hbR.out]
      replace hB := Lib.hid (hB.out.trans (hb4.mono hB.out.size))
      replace hrL := Lib.hid (hrL.out.grow hb4)
      replace hd := Lib.hid (hd.out.grow hb4)
      replace hx1 := Lib.hid (at_below hx1.out hb4)
      clear hb4
      obtain ⟨wa2, hwa2⟩ : ∃ W, W = w4.alloc (.cells #[.int .i64 bl, .int .i64 bh] 28) := ⟨_, rfl⟩
      have hba : Below w4.heap.size w4 wa2 := hwa2 ▸ (Below.refl _ _).alloc (Nat.le_refl _) _
      have hx2 : wa2.heap[w4.heap.size]? = some (.cells #[.int .i64 bl, .int .i64 bh] 28 (0, 0)) := hwa2 ▸ at_new _ _
      obtain ⟨n2, hn2⟩ : ∃ n, n = w4.heap.size := ⟨_, rfl⟩
      rw [← hn2] at hx2
      replace hx2 := Lib.hid hx2
      replace hB := Lib.hid (hB.out.trans (hba.mono hB.out.size))
      replace hrL := Lib.hid (hrL.out.grow hba)
      replace hd := Lib.hid (hd.out.grow hba)
      replace hx1 := Lib.hid (at_below hx1.out hba)
      clear hba
      go_upto_region 12 with (fail)
      rw [← hwa2, ← hn2]
      clear hwa2
      replace hn2 := Lib.hid hn2
      go_wp2_with fail
      refine (xMost_any _ L n _ hrL.out hok2 (by omega) hn).mono ?_
      rintro r w5 ⟨rfl, hb5⟩
      rw [hmst.out]
      replace hB := Lib.hid (hB.out.trans (hb5.mono hB.out.size))
      replace hrL := Lib.hid (hrL.out.grow hb5)
      replace hd := Lib.hid (hd.out.grow hb5)
      replace hx1 := Lib.hid (at_below hx1.out hb5)
      replace hx2 := Lib.hid (at_below hx2.out hb5)
      clear hb5
      obtain ⟨wa3, hwa3⟩ : ∃ W, W = w5.alloc (.cells #[.int .i64 ml, .int .i64 mh] 28) := ⟨_, rfl⟩
      have hba : Below w5.heap.size w5 wa3 := hwa3 ▸ (Below.refl _ _).alloc (Nat.le_refl _) _
      have hx3 : wa3.heap[w5.heap.size]? = some (.cells #[.int .i64 ml, .int .i64 mh] 28 (0, 0)) := hwa3 ▸ at_new _ _
      obtain ⟨n3, hn3⟩ : ∃ n, n = w5.heap.size := ⟨_, rfl⟩
      rw [← hn3] at hx3
      replace hx3 := Lib.hid hx3
      replace hB := Lib.hid (hB.out.trans (hba.mono hB.out.size))
      replace hrL := Lib.hid (hrL.out.grow hba)
      replace hd := Lib.hid (hd.out.grow hba)
      replace hx1 := Lib.hid (at_below hx1.out hba)
      replace hx2 := Lib.hid (at_below hx2.out hba)
      clear hba
      go_upto_region 13 with (fail)
      rw [← hwa3, ← hn3]
      clear hwa3
      replace hn3 := Lib.hid hn3
      go_wp2_with fail
      refine (xMost_any _ L.reverse n _ hd.out hokR (by rw [List.length_reverse]; omega) hn).mono ?_
      rintro r w6 ⟨rfl, hb6⟩
      rw [hmR.out]
      replace hB := Lib.hid (hB.out.trans (hb6.mono hB.out.size))
      replace hrL := Lib.hid (hrL.out.grow hb6)
      replace hd := Lib.hid (hd.out.grow hb6)
      replace hx1 := Lib.hid (at_below hx1.out hb6)
      replace hx2 := Lib.hid (at_below hx2.out hb6)
      replace hx3 := Lib.hid (at_below hx3.out hb6)
      clear hb6
      obtain ⟨wa4, hwa4⟩ : ∃ W, W = w6.alloc (.cells #[.int .i64 ml, .int .i64 mh] 28) := ⟨_, rfl⟩
      have hba : Below w6.heap.size w6 wa4 := hwa4 ▸ (Below.refl _ _).alloc (Nat.le_refl _) _
      have hx4 : wa4.heap[w6.heap.size]? = some (.cells #[.int .i64 ml, .int .i64 mh] 28 (0, 0)) := hwa4 ▸ at_new _ _
      obtain ⟨n4, hn4⟩ : ∃ n, n = w6.heap.size := ⟨_, rfl⟩
      rw [← hn4] at hx4
      replace hx4 := Lib.hid hx4
      replace hB := Lib.hid (hB.out.trans (hba.mono hB.out.size))
      replace hrL := Lib.hid (hrL.out.grow hba)
      replace hd := Lib.hid (hd.out.grow hba)
      replace hx1 := Lib.hid (at_below hx1.out hba)
      replace hx2 := Lib.hid (at_below hx2.out hba)
      replace hx3 := Lib.hid (at_below hx3.out hba)
      clear hba
      go_upto_region 14 with (fail)
      rw [← hwa4, ← hn4]
      clear hwa4
      replace hn4 := Lib.hid hn4
      have p0 := cell_at hx1.out 0
      have p1 := cell_at hx1.out 1
      simp only [List.getElem?_toArray, List.getElem?_cons_zero, List.getElem?_cons_succ] at p0 p1
      have q0 := cell_at hx2.out 0
      have q1 := cell_at hx2.out 1
      simp only [List.getElem?_toArray, List.getElem?_cons_zero, List.getElem?_cons_succ] at q0 q1
      have r0 := cell_at hx3.out 0
      have r1 := cell_at hx3.out 1
      simp only [List.getElem?_toArray, List.getElem?_cons_zero, List.getElem?_cons_succ] at r0 r1
      have s0 := cell_at hx4.out 0
      have s1 := cell_at hx4.out 1
      simp only [List.getElem?_toArray, List.getElem?_cons_zero, List.getElem?_cons_succ] at s0 s1
      go_wp2
      go_ret
      exact ⟨rfl, hB.out⟩

/-! the row's step, written out by law.py -/
set_option maxRecDepth 100000 in
theorem lifted (os : Os) (started : os.Started) (H : Type) (enc : TypeId × Value → H) :
    ReturnsInHanded {} Try.checked os 5 .any (Rows.crossOrderSpec.pre6 enc Try.prog Try.f5 Rows.crossOrderRow.domain false) (Rows.crossOrderSpec.post enc Try.prog Try.f5 false true false false) := by
  refine returnsInHanded_of_change (C := Try.checked) own started (by kernel_rfl) Try.func5
    (ChangeSpec.witness6 (enc := enc) (C := Try.checked) false ⟨#[], #[.slice none 0 0, .int .i64 0], []⟩ 8 (by kernel_rfl) (by kernel_rfl) (by kernel_rfl) (by kernel_rfl)) ?_
  intro W base args ds gs before hval0 hW hcnd _
  have hval : ∀ (j : Nat) t v, Try.f5.params[j]? = some t → args[j]? = some v → Value.okWide Try.prog W .any base t v := hval0
  have hW' := hW
  obtain ⟨p, q, hA0, hV, rfl, hfz, hnd⟩ := hW
  have hA : DataW.TrodAll enc Try.prog W 0 (fun _ => true) true Try.f5.params.toList args.toList ds p := hA0
  rw [Try.params5] at hA hval
  obtain ⟨v0, vs0, d0, ds0, p0, q0, hargs, rfl, rfl, h0, r0⟩ := trodAll_cons hA
  obtain ⟨v1, vs1, d1, ds1, p1, q1, rfl, rfl, rfl, h1, r1⟩ := trodAll_cons r0
  obtain ⟨rfl, rfl, rfl⟩ := trodAll_nil r1
  obtain rfl : args = #[v0, v1] := by cases args; simp_all
  obtain ⟨rfl, rfl⟩ := trodVars_none hV
  have k0 := h0
  have lt0 : ∀ x ∈ p0, x.block < W.heap.size := by obtain ⟨m, hm⟩ := k0; exact DataW.trod_lt m _ _ _ hm
  have k1 := h1
  have lt1 : ∀ x ∈ p1, x.block < W.heap.size := by obtain ⟨m, hm⟩ := k1; exact DataW.trod_lt m _ _ _ hm
  obtain ⟨l0, w0, b0⟩ := slrange_open (hval 0 22 v0 rfl rfl) h0
  obtain ⟨a1, rfl, rfl, rfl, w1⟩ := open_int Try.underlying3 (hval 1 3 v1 rfl rfl) h1
  have w1 := bounds_i64 w1
  clear hA0 hval0
  simp only [List.append_nil] at hW'
  refine (walk v0 l0 a1 W w0 b0 w1).mono fun e W' ⟨he, bel⟩ => ?_
  subst he
  exact ⟨_, rfl, _, _, _, [], _, [], hW', trodAll_mk1 (shut_bool Try.underlying4 _), (trodAll_cons_mk (Below.trod laidOut (by kernel_rfl) (of_decide_eq_true (by kernel_rfl)) k0 bel lt0) (trodAll_cons_mk (Below.trod laidOut (by kernel_rfl) (of_decide_eq_true (by kernel_rfl)) k1 bel lt1) trodAll_mk0)), rfl, bel.frame _, fun h => by cases h⟩

theorem over : Rows.crossOrderRow.holds Try.pinned (OpenSpec.ofChange Rows.crossOrderSpec) :=
  OpenClaim.holds_of_wide 5 Try.f5 rfl rfl rfl rfl rfl rfl rfl ⟨rfl, rfl, rfl, rfl, rfl⟩ rfl rfl rfl rfl rfl (by kernel_rfl) Try.func5 (by kernel_rfl)
    (of_decide_eq_true (by kernel_rfl)) (by unfold Func.isWrapper; first | (rw [if_pos (by decide +kernel)]; kernel_rfl) | (rw [if_neg (by decide +kernel)]; exact ⟨rfl, rfl⟩))
    (fun os started H enc _ => lifted os started H enc)

theorem proved : Rows.CrossOrderSaid := over
end Go.Proofs.Ytimffflhfaiakaa.lawCrossOrder
