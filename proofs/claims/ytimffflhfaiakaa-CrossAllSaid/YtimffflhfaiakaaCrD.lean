/- Contract: from when to when so many have a time. -/
import Derived.Test.YtimffflhfaiakaaCrC
namespace Go.Proofs.Ytimffflhfaiakaa
open Go.RowKit
set_option linter.unusedVariables false

theorem row_below {w w' : World} {B : Nat} {E : TypeId} {size n : Nat} {v : Value} {xs : List Value} (h : w.ownsRow B E size v n xs) (hb : Below w.heap.size w w') : w'.ownsRow B E size v n xs :=
  h.kept (row := none) ⟨hb.os, hb.tape, hb.output, hb.size, fun k hk _ => hb.block k hk⟩ (by cases v.ownBlock with | none => exact .inl rfl | some k => exact .inr (by simp))
theorem filter_take {α : Type} (p : α → Bool) (l : List α) (k : Nat) (h : k < l.length) : (l.take (k + 1)).filter p = (l.take k).filter p ++ if p l[k] = true then [l[k]] else [] := by
  rw [List.take_succ_eq_append_getElem h, List.filter_append]
  congr 1
  rw [List.filter_cons]; rfl
abbrev manyP (l : List Rg) (n : Int) (r : Rg) : Bool := decide (1 ≤ n) && decide (n ≤ (cntR l r.low : Int))
def endsR (A : List Rg) : Rg × Bool := match A with
  | [] => (⟨0, 0⟩, false)
  | x :: t => (⟨x.low, ((x :: t).getLast (by simp)).high⟩, true)
theorem mostR_ends (l : List Rg) (n : Int) : mostR l n = endsR ((runsR (startsR l)).filter (manyP l n)) := rfl
theorem endsR_pos {A : List Rg} {m : Nat} (h : A.length = m + 1) : endsR A = (⟨(A[0]'(by omega)).low, (A[m]'(by omega)).high⟩, true) := by
  cases A with
  | nil => simp at h
  | cons x t =>
    unfold endsR
    simp only [List.length_cons, Nat.add_right_cancel_iff] at h
    subst h
    simp [List.getLast_eq_getElem]

set_option maxRecDepth 100000 in
set_option maxHeartbeats 8000000 in
theorem xMost_any (v : Value) (l : List Rg) (n : Int) (w : World) (hr : rdR w v l) (hok : okR l) (hl : l.length ≤ 1000) (hn : I64 n) :
    Calls Try.prog 19 #[v, .int .i64 n] w fun r w' => r = .returned (.tuple #[.agg #[.int .i64 (mostR l n).1.low, .int .i64 (mostR l n).1.high], .bool (mostR l n).2]) ∧ Below w.heap.size w w' := by
  obtain ⟨i0, hi, hz0, hz1, hz2⟩ := info_parts infoRange
  replace hi := Lib.hid hi
  obtain ⟨hn1, hn2⟩ := hn
  obtain ⟨W1, hW1⟩ : ∃ W, W = w.alloc (.cells #[.int .i64 0, .int .i64 0] 28) := ⟨_, rfl⟩
  have hB1 : Below w.heap.size w W1 := hW1 ▸ (Below.refl _ _).alloc (Nat.le_refl _) _
  have hz1' : W1.heap[w.heap.size]? = some (.cells #[.int .i64 0, .int .i64 0] 28 (0, 0)) := hW1 ▸ at_new _ _
  obtain ⟨nr, hnr⟩ : ∃ nr, nr = w.heap.size := ⟨_, rfl⟩
  rw [← hnr] at hz1'
  have hnrW := at_lt hz1'
  have hwr : w.heap.size ≤ nr := by omega
  have hr1 := hr.grow hB1
  replace hr := Lib.hid hr
  replace hr1 := Lib.hid hr1
  replace hz1' := Lib.hid hz1'
  replace hB1 := Lib.hid hB1
  go_enter Try.func19, Try.ntmps19
  go_upto_region 1 with (fail)
  rw [← hW1, ← hnr]
  clear hW1
  replace hnr := Lib.hid hnr
  go_wp2_with fail
  refine (xRuns_any v l _ hr1.out hok hl).mono ?_
  rintro r w2 ⟨vR, rfl, ho2, hb2⟩
  have hruns := runs_range hok
  have hRl : (runsR (startsR l)).length ≤ 2000 := by rw [runsR_len]; have := starts_len l; omega
  have hmR' := mostR_ends l n
  obtain ⟨R, hR⟩ : ∃ R, runsR (startsR l) = R := ⟨_, rfl⟩
  rw [hR] at ho2 hruns hRl hmR'
  obtain ⟨aR, cR, rfl, hmR, hMR, hxR⟩ := ho2.rd
  unfold maxLen at hMR
  have hz2' := Lib.hid (at_below hz1'.out hb2)
  have hB2 := Lib.hid (hB1.out.trans (hb2.mono hB1.out.size))
  have hnr2 := at_lt hz2'.out
  have hr2 := Lib.hid (hr.out.grow hB2.out)
  replace hxR := Lib.hid hxR
  replace hruns := Lib.hid hruns
  replace hmR' := Lib.hid hmR'
  replace hR := Lib.hid hR
  clear hb2 ho2 hz1' hB1 hr1 hr
  go_wp2
  go_loopw [6, 12] (fun s i wr => ∃ k : Nat, k ≤ R.length ∧ i = .int .i64 k ∧ ownR wr w2.heap.size 28 s ((R.take k).filter (manyP l n)) ∧ Below w2.heap.size w2 wr) (fun _ i _ => R.length - (intOf i).toNat)
  case atStart => exact ⟨0, Nat.zero_le _, rfl, World.ownsRow_nil _ _ _ _, Below.refl _ _⟩
  case round =>
    obtain ⟨k, hk, rfl, hown, hbel⟩ := hrel
    have hsz := hbel.size
    by_cases hlt : k < R.length
    · obtain ⟨g, off, rfl, hc⟩ := hxR.out (by omega)
      have hck := cRg.grow _ _ _ _ _ (hc k hlt) hbel
      have hrng := filter_take (manyP l n) R k hlt
      obtain ⟨hrL, hrI, _⟩ := hruns.out _ (List.getElem_mem hlt)
      have hAl : ((R.take k).filter (manyP l n)).length ≤ 2000 := by
        have := List.length_filter_le (manyP l n) (R.take k)
        rw [List.length_take] at this; omega
      clear hc
      generalize R[k] = x at hck hrng hrI hrL
      generalize (R.take k).filter (manyP l n) = A at hown hrng hAl
      obtain ⟨lo, hh⟩ := x
      obtain ⟨c0, c1⟩ := hck
      dsimp only at c0 c1 hrI hrL
      obtain ⟨hrI1, hrI2⟩ := hrI
      obtain ⟨hrL1, hrL2⟩ := hrL
      unfold manyP at hrng
      dsimp only at hrng
      obtain ⟨w5, hw5⟩ : ∃ W, W = wr.alloc (.cells #[.int .i64 lo, .int .i64 hh] 28) := ⟨_, rfl⟩
      have hb5 : Below wr.heap.size wr w5 := hw5 ▸ (Below.refl _ _).alloc (Nat.le_refl _) _
      have hx5 : w5.heap[wr.heap.size]? = some (.cells #[.int .i64 lo, .int .i64 hh] 28 (0, 0)) := hw5 ▸ at_new _ _
      have ho5 : ownR w5 w2.heap.size 28 _ A := hw5 ▸ World.ownsRow.alloc hown _
      obtain ⟨nx, hnx⟩ : ∃ nx, nx = wr.heap.size := ⟨_, rfl⟩
      rw [← hnx] at hx5
      have hxg := hown.lt
      have hB5 := Lib.hid (hbel.trans (hb5.mono hbel.size))
      have hr5 := Lib.hid ((hr2.out.grow hbel).grow hb5)
      have f0 := cell_at hx5 0
      simp only [List.getElem?_toArray, List.getElem?_cons_zero, List.getElem?_cons_succ] at f0
      have hnx5 := at_lt hx5
      replace hx5 := Lib.hid hx5
      replace hnx := Lib.hid hnx
      replace hrng := Lib.hid hrng
      replace ho5 := Lib.hid ho5
      replace hxg := Lib.hid hxg
      clear hb5 hown hbel
      go_upto_region 5 with (fail)
      rw [← hw5, ← hnx.out]
      clear hw5 c0 c1
      by_cases h1 : n ≥ 1
      · go_wp2_with fail
        refine (xCount_any v l lo _ hr5.out).mono ?_
        rintro r w6 ⟨rfl, hb6⟩
        obtain ⟨c, hcc⟩ : ∃ c, cntR l lo = c := ⟨_, rfl⟩
        rw [hcc]
        have hx6 := at_below hx5.out hb6
        have ho6 : ownR w6 w2.heap.size 28 _ A := row_below ho5.out hb6
        have hB6 := Lib.hid (hB5.out.trans (hb6.mono hB5.out.size))
        have hsz6 := hB6.out.size
        clear f0
        have f0 := cell_at hx6 0
        have f1 := cell_at hx6 1
        simp only [List.getElem?_toArray, List.getElem?_cons_zero, List.getElem?_cons_succ] at f0 f1
        have hnx6 := at_lt hx6
        replace hcc := Lib.hid hcc
        rw [show cntR l lo = c from hcc.out] at hrng
        clear hb6 ho5 hx5 hB5 hr5
        replace hx6 := Lib.hid hx6
        replace ho6 := Lib.hid ho6
        by_cases h2 : (c : Int) ≥ n
        · have b1 : Hid ((R.take (k + 1)).filter (manyP l n) = A ++ [⟨lo, hh⟩]) := Lib.hid (by rw [hrng.out, if_pos (by simp; omega)])
          have hoA := ho6.out
          unfold ownR at hoA
          replace hoA := Lib.hid hoA
          have hxn : ∀ b, u6.ownBlock = some b → b ≠ nx := fun b e h => by have := (hxg.out b e).2; have := hnx.out; omega
          go_upto_region 6 with (fail)
          go_wp2_with (first
            | (at_builtin; refine wpList_append_own _ rfl _ _ 22 rfl w2.heap.size 28 i0 (.agg #[.int .i64 0, .int .i64 0]) 2 16 Try.underlying22 hi.out hz0 hz1 hz2 rfl (by decide) _ _ _ rfl (World.ownsRow.alloc hoA.out _) ⟨_, 0, none⟩ 1 1 (⟨lo, hh⟩ : Rg).cells rfl rfl ?c1 ?c2 ?c3 ?c4 ?c5 ?_))
          try (case c1 => exact World.news_of_block (cs := (⟨lo, hh⟩ : Rg).cells.toArray) (t := 28) (fr := (0, 0)) (heap_alloc_new w6 _))
          case c2 => first | (intro u hu; simp at hu; rcases hu with rfl | rfl <;> rfl) | exact ⟨rfl, rfl⟩ | rfl | simp [Value.oneCell']
          case c3 => unfold maxLen; omega
          case c4 => omega
          case c5 => first | omega | (simp; omega)
          intro v7 w7 hown7 hgrow7 _
          have ho7 : ownR w7 w2.heap.size 28 v7 (A ++ [⟨lo, hh⟩]) := ownR_snoc rfl hown7
          have hB7 : Below w2.heap.size w2 w7 := (hB6.out.alloc hsz6 _).grown hgrow7 (by simp; omega) (fun k hk => (hoA.out.lt k hk).1)
          replace ho7 := Lib.hid ho7
          replace hB7 := Lib.hid hB7
          clear hown7 hgrow7 hoA ho6 hB6
          go_wp2
          go_roundw
          case rel => exact ⟨k + 1, by omega, by go_num, by rw [b1.out]; exact ho7.out, hB7.out⟩
          case measure => simp [intOf]; omega
        · have b1 : Hid ((R.take (k + 1)).filter (manyP l n) = A) := Lib.hid (by rw [hrng.out]; simp; omega)
          go_wp2
          go_roundw
          case rel => exact ⟨k + 1, by omega, by go_num, by rw [b1.out]; exact ho6.out, hB6.out⟩
          case measure => simp [intOf]; omega
      · have b1 : Hid ((R.take (k + 1)).filter (manyP l n) = A) := Lib.hid (by rw [hrng.out]; simp; omega)
        go_wp2
        go_roundw
        case rel => exact ⟨k + 1, by omega, by go_num, by rw [b1.out]; exact ho5.out, hB5.out⟩
        case measure => simp [intOf]; omega
    · obtain rfl : k = R.length := by omega
      rw [List.take_length] at hown
      have hAl : (R.filter (manyP l n)).length ≤ 2000 := by
        have := List.length_filter_le (manyP l n) R
        omega
      obtain ⟨A, hA⟩ : ∃ A, R.filter (manyP l n) = A := ⟨_, rfl⟩
      rw [hA] at hown hAl
      have hmA := hmR'.out
      rw [hA] at hmA
      have hB := hB2.out.trans (hbel.mono hB2.out.size)
      have hzr := at_below hz2'.out hbel
      have zt0 := free_at hzr 0
      have zt1 := free_at hzr 1
      have t0 := cell_at hzr 0
      have t1 := cell_at hzr 1
      simp only [List.getElem?_toArray, List.getElem?_cons_zero, List.getElem?_cons_succ] at t0 t1
      have hnrl := at_lt hzr
      obtain ⟨aA, cA, rfl, hmA', hMA, hxA⟩ := hown.rd
      unfold maxLen at hMA
      have hgA := hown.lt
      replace hxA := Lib.hid hxA
      clear hxR hruns hR hmR'
      by_cases h0 : A.length = 0
      · obtain rfl : A = [] := List.eq_nil_of_length_eq_zero h0
        have hBf : Below w.heap.size w ((wr.setCell ⟨nr, 0, none⟩ (.int .i64 0)).setCell ⟨nr, 1, none⟩ (.int .i64 0)) := (hB.setCell hwr _).setCell hwr _
        replace hBf := Lib.hid hBf
        replace hmA := Lib.hid hmA
        replace hzr := Lib.hid hzr
        clear hB hbel hown hA hgA hxA h0
        go_wp2
        exact bodyPost_ret (v := .tuple #[.agg #[.int .i64 0, .int .i64 0], .bool false]) (by simp [results, Try.results19, go_sem, hnrl, t0, t1]) rfl ⟨by rw [hmA.out]; rfl, hBf.out⟩
      · obtain ⟨m, hm⟩ : ∃ m, A.length = m + 1 := ⟨A.length - 1, by omega⟩
        obtain ⟨g, off, rfl, hc⟩ := hxA.out (by omega)
        have hcL := (hc 0 (by omega)).1
        have hcH := (hc m (by omega)).2
        rw [endsR_pos hm] at hmA
        rw [Nat.zero_mul, Nat.add_zero] at hcL
        have hgn : ¬ g = nr := fun e => by
          have := (hgA g rfl).1
          omega
        have hng : ¬ nr = g := fun e => hgn e.symm
        have hg2 := cell_lt hcL
        generalize (A[0]'(by omega)).low = lo at hcL hmA
        generalize (A[m]'(by omega)).high = hh at hcH hmA
        rw [hm] at hmA' hAl ⊢
        have hBf : Below w.heap.size w ((wr.setCell ⟨nr, 0, none⟩ (.int .i64 lo)).setCell ⟨nr, 1, none⟩ (.int .i64 hh)) := (hB.setCell hwr _).setCell hwr _
        replace hBf := Lib.hid hBf
        replace hmA := Lib.hid hmA
        replace hzr := Lib.hid hzr
        clear hB hbel hown hA hgA hxA h0 hc hm
        go_wp2
        go_region
        go_wp2
        exact bodyPost_ret (v := .tuple #[.agg #[.int .i64 lo, .int .i64 hh], .bool true]) (by simp [results, Try.results19, go_sem, hnrl, t0, t1]) rfl ⟨by rw [hmA.out], hBf.out.drew⟩
end Go.Proofs.Ytimffflhfaiakaa
