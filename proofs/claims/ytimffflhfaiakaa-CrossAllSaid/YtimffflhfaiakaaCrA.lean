/- Contracts: who has a time; where counts may change. -/
import Derived.Test.YtimffflhfaiakaaCrQ
import Derived.Deep.DeepCutAuto
namespace Go.Proofs.Ytimffflhfaiakaa
open Go.RowKit
set_option linter.unusedVariables false

set_option maxRecDepth 100000 in
set_option maxHeartbeats 1000000 in
theorem xCount_any (v : Value) (l : List Rg) (t : Int) (w : World) (hr : rdR w v l) :
    Calls Try.prog 21 #[v, .int .i64 t] w fun r w' => r = .returned (.int .i64 (cntR l t : Nat)) ∧ Below w.heap.size w w' := by
  obtain ⟨a, cap, rfl, hm, hM, ha⟩ := hr
  unfold maxLen at hM
  replace ha := Lib.hid ha
  go_enter Try.func21, Try.ntmps21
  go_wp2
  go_loopw [5, 10] (fun s i wr => ∃ k : Nat, k ≤ l.length ∧ i = .int .i64 k ∧ s = .int .i64 ((cntR (l.take k) t : Nat) : Int) ∧ Below w.heap.size w wr) (fun _ i _ => l.length - (intOf i).toNat)
  case atStart => exact ⟨0, Nat.zero_le _, rfl, rfl, Below.refl _ _⟩
  case round =>
    obtain ⟨k, hk, rfl, rfl, hbel⟩ := hrel
    by_cases hlt : k < l.length
    · obtain ⟨g, off, rfl, hc⟩ := ha.out (by omega)
      have hck := cRg.grow _ _ _ _ _ (hc k hlt) hbel
      have hst := cntR_take l t k hlt
      have hle := cntR_le (l.take k) t
      rw [List.length_take] at hle
      clear hc
      generalize l[k] = x at hck hst
      obtain ⟨lo, hi⟩ := x
      obtain ⟨c0, c1⟩ := hck
      dsimp only at c0 c1
      have hb2 := Lib.hid (hbel.alloc hbel.size (.cells #[.int .i64 lo, .int .i64 hi] 28))
      generalize cntR (l.take k) t = s at hst hle ⊢
      unfold inR at hst
      replace hst := Lib.hid hst
      clear hbel
      by_cases h1 : lo ≤ t
      · by_cases h2 : t ≤ hi
        · have b1 : Hid (cntR (l.take (k + 1)) t = s + 1) := Lib.hid (by rw [hst.out]; simp [h1, h2])
          go_wp2
          go_roundw
          case rel => exact ⟨k + 1, by omega, by go_num, by rw [b1.out]; go_num, hb2.out⟩
          case measure => simp [intOf]; omega
        · have b1 : Hid (cntR (l.take (k + 1)) t = s) := Lib.hid (by rw [hst.out]; simp [h2])
          go_wp2
          go_roundw
          case rel => exact ⟨k + 1, by omega, by go_num, by rw [b1.out], hb2.out⟩
          case measure => simp [intOf]; omega
      · have b1 : Hid (cntR (l.take (k + 1)) t = s) := Lib.hid (by rw [hst.out]; simp [h1])
        go_wp2
        go_roundw
        case rel => exact ⟨k + 1, by omega, by go_num, by rw [b1.out], hb2.out⟩
        case measure => simp [intOf]; omega
    · obtain rfl : k = l.length := by omega
      rw [List.take_length]
      go_wp2
      go_ret
      exact ⟨rfl, hbel⟩

theorem ownI_snoc {w : World} {B : Nat} {E : TypeId} {v : Value} {l : List Int} {x : Int} (h : w.ownsRow B E 1 v (l.length + 1) (intsV l ++ [.int .i64 x])) : ownI w B E v (l ++ [x]) := by
  unfold ownI
  rw [List.length_append, show intsV (l ++ [x]) = intsV l ++ [.int .i64 x] by simp [intsV]]
  exact h
theorem news_int (w : World) (x : Int) (E : TypeId) (n : Nat) (hn : n = w.heap.size) : ∀ (j : Nat) (u : Value), [Value.int .i64 x][j]? = some u → (w.alloc (.cells #[.int .i64 x] E)).cell? ((⟨n, 0, none⟩ : Addr).add j) = some u := by
  subst hn
  intro j u hj
  match j, hj with
  | 0, hj => simp at hj; subst hj; simp [Addr.add]

set_option maxRecDepth 100000 in
set_option maxHeartbeats 4000000 in
theorem xStarts_any (v : Value) (l : List Rg) (w : World) (hr : rdR w v l) (hok : okR l) (hl : l.length ≤ 1000) :
    Calls Try.prog 46 #[v] w fun r w' => ∃ v', r = .returned v' ∧ ownI w' w.heap.size 2 v' (startsR l) ∧ Below w.heap.size w w' := by
  obtain ⟨i0, hi, hz0, hz1, hz2⟩ := info_parts infoI64
  replace hi := Lib.hid hi
  obtain ⟨a, cap, rfl, hm, hM, ha⟩ := hr
  unfold maxLen at hM
  replace ha := Lib.hid ha
  go_enter Try.func46, Try.ntmps46
  go_wp2
  go_loopw [3, 8] (fun r i wr => ∃ k : Nat, k ≤ l.length ∧ i = .int .i64 k ∧ ownI wr w.heap.size 2 r (rawS (l.take k)) ∧ Below w.heap.size w wr) (fun _ i _ => l.length - (intOf i).toNat)
  case atStart => exact ⟨0, Nat.zero_le _, rfl, World.ownsRow_nil _ _ _ _, Below.refl _ _⟩
  case round =>
    obtain ⟨k, hk, rfl, hown, hbel⟩ := hrel
    by_cases hlt : k < l.length
    · obtain ⟨g, off, rfl, hc⟩ := ha.out (by omega)
      have hck := cRg.grow _ _ _ _ _ (hc k hlt) hbel
      have hst := rawS_take l k hlt
      have hI := (hok _ (List.getElem_mem hlt)).2
      have hle := rawS_len (l.take k)
      rw [List.length_take] at hle
      clear hc
      generalize l[k] = x at hck hst hI
      obtain ⟨lo, hi2⟩ := x
      obtain ⟨hI1, hI2⟩ := hI
      dsimp only at hI1 hI2
      obtain ⟨c0, c1⟩ := hck
      dsimp only at c0 c1
      generalize rawS (l.take k) = R at hst hle hown
      unfold rawR at hst
      dsimp only at hst
      have hle2 : R.length ≤ 2000 := by omega
      obtain ⟨w5, hw5⟩ : ∃ W, W = wr.alloc (.cells #[.int .i64 lo, .int .i64 hi2] 28) := ⟨_, rfl⟩
      have hx5 : w5.heap[wr.heap.size]? = some (.cells #[.int .i64 lo, .int .i64 hi2] 28 (0, 0)) := hw5 ▸ at_new _ _
      have hb5 : Below wr.heap.size wr w5 := hw5 ▸ (Below.refl _ _).alloc (Nat.le_refl _) _
      have ho5 : ownI w5 w.heap.size 2 u3 R := hw5 ▸ World.ownsRow.alloc hown _
      have hB5 := Lib.hid (hbel.trans (hb5.mono hbel.size))
      have hgl := hown.lt
      obtain ⟨nx, hnx⟩ : ∃ nx, nx = wr.heap.size := ⟨_, rfl⟩
      rw [← hnx] at hx5
      have hnx5 := at_lt hx5
      have hBw := hB5.out.size
      have f0 := cell_at hx5 0
      have f1 := cell_at hx5 1
      simp only [List.getElem?_toArray, List.getElem?_cons_zero, List.getElem?_cons_succ] at f0 f1
      replace hst := Lib.hid hst
      replace hx5 := Lib.hid hx5
      replace ho5 := Lib.hid ho5
      replace hgl := Lib.hid hgl
      replace hnx := Lib.hid hnx
      clear hown hbel hb5
      go_upto_region 5 with (fail)
      rw [← hw5, ← hnx.out]
      clear hw5 c0 c1
      by_cases h1 : hi2 < lo
      · have b1 : Hid (rawS (l.take (k + 1)) = R) := Lib.hid (by rw [hst.out, if_pos (by omega), List.append_nil])
        go_wp2
        go_roundw
        case rel => exact ⟨k + 1, by omega, by go_num, by rw [b1.out]; exact ho5.out, hB5.out⟩
        case measure => simp [intOf]; omega
      · go_upto_region 6 with (fail)
        go_wp2_with (first
          | (at_builtin; refine wpList_append_own _ rfl _ _ 65 rfl w.heap.size 2 i0 (.int .i64 0) 1 8 Try.underlying65 hi.out hz0 hz1 hz2 rfl (by decide) _ _ _ rfl (World.ownsRow.alloc ho5.out _) ⟨_, 0, none⟩ 1 1 [.int .i64 lo] rfl rfl ?c1 ?c2 ?c3 ?c4 ?c5 ?_))
        case c2 => rfl
        case c3 => unfold maxLen; omega
        case c4 => omega
        case c5 => omega
        intro v6 w6 hown6 hgrow6 _
        have ho6 := ownI_snoc hown6
        have hB6 : Below w.heap.size w w6 := (hB5.out.alloc hBw _).grown hgrow6 (by simp; omega) (fun k hk => (ho5.out.lt k hk).1)
        have hx6 : w6.heap[nx]? = some (.cells #[.int .i64 lo, .int .i64 hi2] 28 (0, 0)) := by
          rw [hgrow6.block nx (by simp; omega) (fun e => by have := (hgl.out nx e.symm).2; have := hnx.out; omega)]
          exact at_old _ hx5.out
        have hs6 : w5.heap.size + 1 ≤ w6.heap.size := by have := hgrow6.size; simpa using this
        have hgl6 := ho6.lt
        have hnx6 := at_lt hx6
        clear f0 f1
        have f0 := cell_at hx6 0
        have f1 := cell_at hx6 1
        simp only [List.getElem?_toArray, List.getElem?_cons_zero, List.getElem?_cons_succ] at f0 f1
        replace ho6 := Lib.hid ho6
        replace hB6 := Lib.hid hB6
        replace hx6 := Lib.hid hx6
        clear hown6 hgrow6 ho5 hB5 hx5 hgl hgl6
        by_cases h2 : hi2 < maxI
        · have hw6 := hB6.out.size
          have hl1 : (R ++ [lo]).length = R.length + 1 := by simp
          replace hl1 := Lib.hid hl1
          have h2' : hi2 < 9223372036854775807 := h2
          go_upto_region 8 with (fail)
          go_wp2_with (first
            | (at_builtin; refine wpList_append_own _ rfl _ _ 65 rfl w.heap.size 2 i0 (.int .i64 0) 1 8 Try.underlying65 hi.out hz0 hz1 hz2 rfl (by decide) _ _ _ rfl (World.ownsRow.alloc ho6.out _) ⟨_, 0, none⟩ 1 1 [.int .i64 (hi2 + 1)] rfl rfl ?d1 ?d2 ?d3 ?d4 ?d5 ?_))
          case d1 => exact news_int w6 (hi2 + 1) _ _ rfl
          case d2 => intro u hu; simp at hu; subst hu; rfl
          case d3 => unfold maxLen; simp; omega
          case d4 => simp; omega
          case d5 => simp; omega
          intro v7 w7 hown7 hgrow7 _
          have ho7 := ownI_snoc (l := R ++ [lo]) (x := hi2 + 1) (by rw [hl1.out]; exact hown7)
          have hB7 : Below w.heap.size w w7 := (hB6.out.alloc hw6 _).grown hgrow7 (by simp; omega) (fun k hk => (ho6.out.lt k hk).1)
          have b1 : Hid (rawS (l.take (k + 1)) = R ++ [lo] ++ [hi2 + 1]) := Lib.hid (by rw [hst.out, if_neg (by omega), if_pos h2]; simp)
          replace ho7 := Lib.hid ho7
          replace hB7 := Lib.hid hB7
          clear hown7 hgrow7 ho6 hB6 hx6
          go_wp2
          go_roundw
          case rel => exact ⟨k + 1, by omega, by go_num, by rw [b1.out]; exact ho7.out, hB7.out⟩
          case measure => simp [intOf]; omega
        · have b1 : Hid (rawS (l.take (k + 1)) = R ++ [lo]) := Lib.hid (by rw [hst.out, if_neg (by omega), if_neg (by have := h2; omega)])
          have h2' : hi2 = 9223372036854775807 := by have : ¬ hi2 < 9223372036854775807 := h2; omega
          have h2'' : ¬ hi2 < 9223372036854775807 := h2
          go_wp2
          go_roundw
          case rel => exact ⟨k + 1, by omega, by go_num, by rw [b1.out]; exact ho6.out, hB6.out⟩
          case measure => simp [intOf]; omega
    · obtain rfl : k = l.length := by omega
      rw [List.take_length] at hown
      have hle := rawS_len l
      obtain ⟨R, hR⟩ : ∃ R, rawS l = R := ⟨_, rfl⟩
      rw [hR] at hown hle
      replace hR := Lib.hid hR
      have hBw := hbel.size
      by_cases hR0 : R = []
      · subst hR0
        obtain ⟨p, cp, rfl⟩ := hown.rd.len
        have hs : sortI [] = [] := List.eq_nil_of_length_eq_zero (by rw [sortI_len]; rfl)
        have hcm : Lib.compact ([] : List Int) = [] := rfl
        have hoH := Lib.hid hown
        replace hs := Lib.hid hs
        replace hcm := Lib.hid hcm
        go_wp2_with fail
        refine (AnyG.slices_Sort_int_none Try.laysSort p cp _).mono ?_
        rintro r w2 ⟨rfl, rfl⟩
        go_wp2_with fail
        refine (AnyG.slices_Compact_int_empty Try.laysCompact p cp _).mono ?_
        rintro r w3 ⟨rfl, rfl⟩
        go_wp2
        go_ret
        exact ⟨_, rfl, by rw [startsR, hR.out, hs.out, hcm.out]; exact hoH.out, hbel⟩
      · have hpos : 0 < R.length := List.length_pos_iff.2 hR0
        obtain ⟨g, cp, rfl, hbg, hgw⟩ := hown.form hpos
        have hoH := Lib.hid hown
        have hbH := Lib.hid hbel
        clear hown hbel
        go_wp2_with fail
        refine (sSortI_any g cp _ R _ hoH.out (by omega)).mono ?_
        rintro r w2 ⟨rfl, ho2, hc2⟩
        have hB2 := Lib.hid (hbH.out.trans (hc2.below hBw fun j hj => by have : j = g := hj; omega))
        have hsl := sortI_len R
        have ho2' := Lib.hid ho2
        rw [← hsl]
        replace hsl := Lib.hid hsl
        clear hc2 ho2
        go_wp2_with fail
        refine (sCompactI_any g cp _ (sortI R) _ ho2'.out (by have := hsl.out; omega)).mono ?_
        rintro r w3 ⟨rfl, ho3, hc3⟩
        have hB3 := hB2.out.trans (hc3.below hB2.out.size fun j hj => by have : j = g := hj; omega)
        replace ho3 := Lib.hid ho3
        go_wp2
        go_ret
        exact ⟨_, rfl, by rw [startsR, hR.out]; exact ho3.out, hB3⟩
end Go.Proofs.Ytimffflhfaiakaa
