/- Contract: the first run of times that most have. -/
import Derived.Test.YtimffflhfaiakaaCrB
namespace Go.Proofs.Ytimffflhfaiakaa
open Go.RowKit
set_option linter.unusedVariables false

theorem set2 {w : World} {g : Nat} {a b : Value} {E : TypeId} (h : w.heap[g]? = some (.cells #[a, b] E (0, 0))) (p q : Value) :
    ((w.setCell ⟨g, 0, none⟩ p).setCell ⟨g, 1, none⟩ q).heap[g]? = some (.cells #[p, q] E (0, 0)) := by
  have h1 := set_at (o := 0) (u := p) h
  have h2 := set_at (o := 1) (u := q) h1
  exact h2
theorem rdR.grow {w w' : World} {v : Value} {l : List Rg} (h : rdR w v l) (hb : Below w.heap.size w w') : rdR w' v l := rdS.grow cRg.grow h hb
theorem foldl_take {α β : Type} (f : α → β → α) (a : α) (l : List β) (k : Nat) (h : k < l.length) : (l.take (k + 1)).foldl f a = f ((l.take k).foldl f a) l[k] := by
  rw [List.take_succ_eq_append_getElem h, List.foldl_append]; rfl

set_option maxRecDepth 100000 in
set_option maxHeartbeats 8000000 in
theorem xBest_any (v : Value) (l : List Rg) (w : World) (hr : rdR w v l) (hok : okR l) (hl : l.length ≤ 1000) :
    Calls Try.prog 17 #[v] w fun r w' => r = .returned (.tuple #[.agg #[.int .i64 (bestR l).1.low, .int .i64 (bestR l).1.high], .int .i64 ((bestR l).2 : Nat)]) ∧ Below w.heap.size w w' := by
  obtain ⟨W1, hW1⟩ : ∃ W, W = (w.alloc (.cells #[.int .i64 0, .int .i64 0] 28)).alloc (.cells #[.int .i64 0, .int .i64 0] 28) := ⟨_, rfl⟩
  have hB1 : Below w.heap.size w W1 := hW1 ▸ ((Below.refl _ _).alloc (Nat.le_refl _) _).alloc (by simp) _
  have hz1 : W1.heap[w.heap.size]? = some (.cells #[.int .i64 0, .int .i64 0] 28 (0, 0)) := hW1 ▸ at_old _ (at_new _ _)
  have hb1 : W1.heap[w.heap.size + 1]? = some (.cells #[.int .i64 0, .int .i64 0] 28 (0, 0)) := by
    have := at_new (w.alloc (.cells #[.int .i64 0, .int .i64 0] 28)) (.cells #[.int .i64 0, .int .i64 0] 28)
    rw [← hW1] at this
    simpa using this
  obtain ⟨nr, hnr⟩ : ∃ nr, nr = w.heap.size := ⟨_, rfl⟩
  rw [← hnr] at hz1 hb1
  obtain ⟨nb, hnb⟩ : ∃ nb, nb = nr + 1 := ⟨_, rfl⟩
  rw [← hnb] at hb1
  have hrb : nr < nb := by omega
  have hnbW := at_lt hb1
  have hwr : w.heap.size ≤ nr := by omega
  have hr1 := hr.grow hB1
  replace hr := Lib.hid hr
  replace hr1 := Lib.hid hr1
  replace hz1 := Lib.hid hz1
  replace hb1 := Lib.hid hb1
  replace hB1 := Lib.hid hB1
  go_enter Try.func17, Try.ntmps17
  go_upto_region 2 with (fail)
  rw [← hW1, ← hnr, ← hnb]
  clear hW1
  replace hnr := Lib.hid hnr
  replace hnb := Lib.hid hnb
  go_wp2_with fail
  refine (xRuns_any v l _ hr1.out hok hl).mono ?_
  rintro r w2 ⟨vR, rfl, ho2, hb2⟩
  have hruns := runs_range hok
  have hRl : (runsR (startsR l)).length ≤ 2000 := by rw [runsR_len]; have := starts_len l; omega
  have hbR : bestR l = (runsR (startsR l)).foldl (bestStep l) (⟨0, 0⟩, 0) := rfl
  obtain ⟨R, hR⟩ : ∃ R, runsR (startsR l) = R := ⟨_, rfl⟩
  rw [hR] at ho2 hruns hRl hbR
  obtain ⟨aR, cR, rfl, hmR, hMR, hxR⟩ := ho2.rd
  unfold maxLen at hMR
  have hblk : ∀ g off, aR = some ⟨g, off, none⟩ → nb < g := fun g off e => by
    have := (World.ownsRow.lt ho2 g (by rw [e]; rfl)).1
    omega
  have hz2 := Lib.hid (at_below hz1.out hb2)
  have hbb2 := Lib.hid (at_below hb1.out hb2)
  have hB2 := Lib.hid (hB1.out.trans (hb2.mono hB1.out.size))
  have hnb2 := at_lt hbb2.out
  replace hxR := Lib.hid hxR
  replace hblk := Lib.hid hblk
  replace hruns := Lib.hid hruns
  replace hbR := Lib.hid hbR
  replace hR := Lib.hid hR
  clear hb2 ho2 hz1 hb1 hB1 hr1
  go_wp2
  go_loopw [5, 13] (fun s i wr => ∃ (k : Nat) (bs : Rg) (n : Nat), k ≤ R.length ∧ i = .int .i64 k ∧ s = .int .i64 (n : Int) ∧ (R.take k).foldl (bestStep l) (⟨0, 0⟩, 0) = (bs, n) ∧ wr.heap[nb]? = some (.cells #[.int .i64 bs.low, .int .i64 bs.high] 28 (0, 0)) ∧ wr.heap[nr]? = some (.cells #[.int .i64 0, .int .i64 0] 28 (0, 0)) ∧ I64 bs.high ∧ Chg (fun j => j = nb) w2 wr ∧ Below w.heap.size w wr) (fun _ i _ => R.length - (intOf i).toNat)
  case atStart => exact ⟨0, ⟨0, 0⟩, 0, Nat.zero_le _, rfl, rfl, rfl, hbb2.out, hz2.out, ⟨by dsimp only; omega, by dsimp only; omega⟩, Chg.refl _ _, hB2.out⟩
  case round =>
    obtain ⟨k, bs, n, hk, rfl, rfl, hst, hbest, hzero, hI, hchg, hbel⟩ := hrel
    clear hz2 hbb2 hB2
    by_cases hlt : k < R.length
    · obtain ⟨g, off, rfl, hc⟩ := hxR.out (by omega)
      have hgn := hblk.out g off rfl
      have hck := (hc k hlt).chg hchg (fun e => by have : g = nb := e; omega)
      have hsk := foldl_take (bestStep l) (⟨0, 0⟩, 0) R k hlt
      rw [hst] at hsk
      obtain ⟨_, hrI, _⟩ := hruns.out _ (List.getElem_mem hlt)
      clear hc
      generalize R[k] = x at hck hsk hrI
      obtain ⟨lo, hh⟩ := x
      obtain ⟨c0, c1⟩ := hck
      dsimp only at c0 c1 hrI
      obtain ⟨bl, bh⟩ := bs
      dsimp only at hbest hI
      obtain ⟨w5, hw5⟩ : ∃ W, W = wr.alloc (.cells #[.int .i64 lo, .int .i64 hh] 28) := ⟨_, rfl⟩
      have hb5 : Below wr.heap.size wr w5 := hw5 ▸ (Below.refl _ _).alloc (Nat.le_refl _) _
      have hx5 : w5.heap[wr.heap.size]? = some (.cells #[.int .i64 lo, .int .i64 hh] 28 (0, 0)) := hw5 ▸ at_new _ _
      have hnbr := at_lt hbest
      obtain ⟨nx, hnx⟩ : ∃ nx, nx = wr.heap.size := ⟨_, rfl⟩
      rw [← hnx] at hx5
      have hxn : ¬ nx = nb := by omega
      have hbx : ¬ nb = nx := by omega
      have hB5 := Lib.hid (hbel.trans (hb5.mono hbel.size))
      have hr5 := Lib.hid ((hr.out.grow hbel).grow hb5)
      have hbest5 := Lib.hid (at_below hbest hb5)
      have hzero5 := Lib.hid (at_below hzero hb5)
      have hchg5 := Lib.hid (hchg.on hb5)
      have f0 := cell_at hx5 0
      simp only [List.getElem?_toArray, List.getElem?_cons_zero, List.getElem?_cons_succ] at f0
      have hnx5 := at_lt hx5
      replace hx5 := Lib.hid hx5
      replace hnx := Lib.hid hnx
      replace hsk := Lib.hid hsk
      clear hb5 hbest hzero hchg hbel hst
      go_upto_region 5 with (fail)
      rw [← hw5, ← hnx.out]
      clear hw5 c0 c1
      go_wp2_with fail
      refine (xCount_any v l lo _ hr5.out).mono ?_
      rintro r w6 ⟨rfl, hb6⟩
      obtain ⟨c, hcc⟩ : ∃ c, cntR l lo = c := ⟨_, rfl⟩
      rw [hcc]
      have hbest6 := at_below hbest5.out hb6
      have hzero6 := Lib.hid (at_below hzero5.out hb6)
      have hx6 := at_below hx5.out hb6
      have hc6 := Lib.hid (hchg5.out.on hb6)
      have hB6 := Lib.hid (hB5.out.trans (hb6.mono hB5.out.size))
      clear f0
      have f0 := cell_at hx6 0
      have f1 := cell_at hx6 1
      have b0 := cell_at hbest6 0
      have b1 := cell_at hbest6 1
      simp only [List.getElem?_toArray, List.getElem?_cons_zero, List.getElem?_cons_succ] at f0 f1 b0 b1
      have zb0 := free_at hbest6 0
      have zb1 := free_at hbest6 1
      have hnx6 := at_lt hx6
      have hnb6 := at_lt hbest6
      replace hcc := Lib.hid hcc
      have hstep : bestStep l (⟨bl, bh⟩, n) ⟨lo, hh⟩ = if n < c then (⟨lo, hh⟩, c) else if c = n ∧ 0 < n ∧ bh < maxI ∧ lo = bh + 1 then (⟨bl, hh⟩, n) else (⟨bl, bh⟩, n) := by
        unfold bestStep; rw [hcc.out]
      rw [hstep] at hsk
      clear hstep hb6 hbest5 hzero5 hx5 hchg5 hB5 hr5
      replace hx6 := Lib.hid hx6
      by_cases h1 : n < c
      · have hs2 : Hid ((R.take (k + 1)).foldl (bestStep l) (⟨0, 0⟩, 0) = (⟨lo, hh⟩, c)) := Lib.hid (by rw [hsk.out, if_pos h1])
        have hset := set2 hbest6 (.int .i64 lo) (.int .i64 hh)
        have hcs : Chg (fun j => j = nb) w6 ((w6.setCell ⟨nb, 0, none⟩ (.int .i64 lo)).setCell ⟨nb, 1, none⟩ (.int .i64 hh)) := chg_set (chg_set (Chg.refl _ _) rfl) rfl
        have hz7 := Lib.hid (at_chg hzero6.out hcs (fun e => by have : nr = nb := e; omega))
        have hc7 := Lib.hid (hc6.out.more hcs (fun i hi => .inl hi))
        have hB7 := Lib.hid (hB6.out.trans (hcs.below hB6.out.size fun j hj => by have : j = nb := hj; omega))
        replace hset := Lib.hid hset
        replace hbest6 := Lib.hid hbest6
        clear hcs
        go_wp2
        go_roundw
        case rel => exact ⟨k + 1, ⟨lo, hh⟩, c, by omega, by go_num, rfl, hs2.out, hset.out, hz7.out, hrI, hc7.out, hB7.out⟩
        case measure => simp [intOf]; omega
      · by_cases h2 : c = n ∧ 0 < n ∧ bh < maxI ∧ lo = bh + 1
        · have hs2 : Hid ((R.take (k + 1)).foldl (bestStep l) (⟨0, 0⟩, 0) = (⟨bl, hh⟩, n)) := Lib.hid (by rw [hsk.out, if_neg (by omega), if_pos h2])
          obtain ⟨e1, e2, e3, e4⟩ := h2
          have e3' : bh < 9223372036854775807 := e3
          obtain ⟨hI1, hI2⟩ := hI
          have hset := set_at (o := 1) (u := .int .i64 hh) hbest6
          have hcs : Chg (fun j => j = nb) w6 (w6.setCell ⟨nb, 1, none⟩ (.int .i64 hh)) := chg_set (Chg.refl _ _) rfl
          have hz7 := Lib.hid (at_chg hzero6.out hcs (fun e => by have : nr = nb := e; omega))
          have hc7 := Lib.hid (hc6.out.more hcs (fun i hi => .inl hi))
          have hB7 := Lib.hid (hB6.out.trans (hcs.below hB6.out.size fun j hj => by have : j = nb := hj; omega))
          have hset' : (w6.setCell ⟨nb, 1, none⟩ (.int .i64 hh)).heap[nb]? = some (.cells #[.int .i64 bl, .int .i64 hh] 28 (0, 0)) := hset
          replace hset' := Lib.hid hset'
          replace hbest6 := Lib.hid hbest6
          clear hcs hset
          have d : ((c : Int) == (n : Int)) = true := by simp [e1]
          have d' : (c == n) = true := by simpa using e1
          have d4 : (lo == bh + 1) = true := by simpa using e4
          clear e1 e4
          go_wp2
          go_roundw
          case rel => exact ⟨k + 1, ⟨bl, hh⟩, n, by omega, by go_num, rfl, hs2.out, hset'.out, hz7.out, hrI, hc7.out, hB7.out⟩
          case measure => simp [intOf]; omega
        · have hs2 : Hid ((R.take (k + 1)).foldl (bestStep l) (⟨0, 0⟩, 0) = (⟨bl, bh⟩, n)) := Lib.hid (by rw [hsk.out, if_neg (by omega), if_neg h2])
          have hbH := Lib.hid hbest6
          have hIH := Lib.hid hI
          obtain ⟨hI1, hI2⟩ := hI
          clear hbest6
          by_cases e1 : c = n
          · by_cases e2 : 0 < n
            · by_cases e3 : bh < 9223372036854775807
              · have e4 : ¬ lo = bh + 1 := fun e4 => h2 ⟨e1, e2, e3, e4⟩
                have d : ((c : Int) == (n : Int)) = true := by simp [e1]
                have d' : (c == n) = true := by simpa using e1
                have d4 : (lo == bh + 1) = false := by simpa using e4
                clear h2 e1 e4
                go_wp2
                go_roundw
                case rel => exact ⟨k + 1, ⟨bl, bh⟩, n, by omega, by go_num, rfl, hs2.out, hbH.out, hzero6.out, hIH.out, hc6.out, hB6.out⟩
                case measure => simp [intOf]; omega
              · have d : ((c : Int) == (n : Int)) = true := by simp [e1]
                have d' : (c == n) = true := by simpa using e1
                clear h2 e1
                go_wp2
                go_roundw
                case rel => exact ⟨k + 1, ⟨bl, bh⟩, n, by omega, by go_num, rfl, hs2.out, hbH.out, hzero6.out, hIH.out, hc6.out, hB6.out⟩
                case measure => simp [intOf]; omega
            · have d : ((c : Int) == (n : Int)) = true := by simp [e1]
              have d' : (c == n) = true := by simpa using e1
              clear h2 e1
              go_wp2
              go_roundw
              case rel => exact ⟨k + 1, ⟨bl, bh⟩, n, by omega, by go_num, rfl, hs2.out, hbH.out, hzero6.out, hIH.out, hc6.out, hB6.out⟩
              case measure => simp [intOf]; omega
          · have d : ((c : Int) == (n : Int)) = false := by simp; omega
            have d' : (c == n) = false := by simpa using e1
            clear h2 e1
            go_wp2
            go_roundw
            case rel => exact ⟨k + 1, ⟨bl, bh⟩, n, by omega, by go_num, rfl, hs2.out, hbH.out, hzero6.out, hIH.out, hc6.out, hB6.out⟩
            case measure => simp [intOf]; omega
    · obtain rfl : k = R.length := by omega
      rw [List.take_length, ← hbR.out] at hst
      have q0 := cell_at hbest 0
      have q1 := cell_at hbest 1
      have t0 := cell_at hzero 0
      have t1 := cell_at hzero 1
      simp only [List.getElem?_toArray, List.getElem?_cons_zero, List.getElem?_cons_succ] at q0 q1 t0 t1
      have zt0 := free_at hzero 0
      have zt1 := free_at hzero 1
      have hn1 : ¬ nb = nr := by omega
      have hn2 : ¬ nr = nb := by omega
      have hnrl := at_lt hzero
      have hB : Below w.heap.size w ((wr.setCell ⟨nr, 0, none⟩ (.int .i64 bs.low)).setCell ⟨nr, 1, none⟩ (.int .i64 bs.high)) := (hbel.setCell hwr _).setCell hwr _
      replace hB := Lib.hid hB
      replace hst := Lib.hid hst
      replace hbest := Lib.hid hbest
      replace hzero := Lib.hid hzero
      clear hbel hchg
      go_wp2
      exact bodyPost_ret (v := .tuple #[.agg #[.int .i64 bs.low, .int .i64 bs.high], .int .i64 (n : Int)]) (by simp [results, Try.results17, go_sem, hn1, hn2, hnrl, t0, t1]) rfl ⟨by rw [hst.out], hB.out⟩
end Go.Proofs.Ytimffflhfaiakaa

