/- Contract: the runs of times in which the count is always the same. -/
import Derived.Test.YtimffflhfaiakaaCrA
namespace Go.Proofs.Ytimffflhfaiakaa
open Go.RowKit
set_option linter.unusedVariables false

theorem infoRange : (Try.prog.info? 28).map (fun i => (i.zero, i.size, i.bytes)) = some (some (.agg #[.int .i64 0, .int .i64 0]), 2, 16) := by kernel_rfl
theorem row_base {w : World} {B B' : Nat} {E : TypeId} {size : Nat} {v : Value} {n : Nat} {xs : List Value} (h : w.ownsRow B E size v n xs) (hB : B' ≤ B) : w.ownsRow B' E size v n xs := by
  obtain ⟨a1, a2⟩ := h
  refine ⟨a1, a2.imp id ?_⟩
  rintro ⟨g, cap, cur, e1, e2, e3⟩
  exact ⟨g, cap, cur, e1, Nat.le_trans hB e2, e3⟩
theorem ownR_snoc {w : World} {B : Nat} {E : TypeId} {v : Value} {l : List Rg} {x : Rg} {n : Nat} (hn : n = l.length) (h : w.ownsRow B E 2 v (n + 1) (flatR l ++ x.cells)) : ownR w B E v (l ++ [x]) := by
  subst hn
  unfold ownR
  rw [List.length_append, flatR_snoc]
  exact h

set_option maxRecDepth 100000 in
set_option maxHeartbeats 4000000 in
theorem xRuns_any (v : Value) (l : List Rg) (w : World) (hr : rdR w v l) (hok : okR l) (hl : l.length ≤ 1000) :
    Calls Try.prog 38 #[v] w fun r w' => ∃ v', r = .returned v' ∧ ownR w' w.heap.size 28 v' (runsR (startsR l)) ∧ Below w.heap.size w w' := by
  obtain ⟨i0, hi, hz0, hz1, hz2⟩ := info_parts infoRange
  replace hi := Lib.hid hi
  go_enter Try.func38, Try.ntmps38
  go_wp2_with fail
  refine (xStarts_any v l _ hr hok hl).mono ?_
  rintro r w1 ⟨vs, rfl, ho1, hb1⟩
  have hSs := (starts_spec l).1
  have hSI := starts_range hok
  have hSl := starts_len l
  obtain ⟨S, hS⟩ : ∃ S, startsR l = S := ⟨_, rfl⟩
  rw [hS] at ho1 hSs hSI hSl
  have hruns := runs_ok hSs hSI
  obtain ⟨aS, cS, rfl, hmS, hMS, hxS⟩ := ho1.rd
  unfold maxLen at hMS
  have hl2 : S.length ≤ 2000 := by omega
  replace hS := Lib.hid hS
  replace hxS := Lib.hid hxS
  replace hSs := Lib.hid hSs
  replace hSI := Lib.hid hSI
  replace hruns := Lib.hid hruns
  replace hb1 := Lib.hid hb1
  clear ho1
  go_wp2
  go_loopw [4, 12] (fun r i wr => ∃ k : Nat, k ≤ S.length ∧ i = .int .i64 k ∧ ownR wr w1.heap.size 28 r ((List.range k).map (runR S)) ∧ Below w1.heap.size w1 wr) (fun _ i _ => S.length - (intOf i).toNat)
  case atStart => exact ⟨0, Nat.zero_le _, rfl, World.ownsRow_nil _ _ _ _, Below.refl _ _⟩
  case round =>
    obtain ⟨k, hk, rfl, hown, hbel⟩ := hrel
    have hsz := hbel.size
    by_cases hlt : k < S.length
    · obtain ⟨g, off, rfl, hc⟩ := hxS.out (by omega)
      have hck := hbel.cell (p := ⟨g, off + k, none⟩) (cell_lt (hc k hlt))
      rw [hc k hlt] at hck
      have e1 : S.getD k 0 = S[k] := by simp [List.getD, hlt]
      obtain ⟨⟨hI1, hI2⟩, _, _⟩ := hruns.out k hlt
      have hrk : runR S k = ⟨S.getD k 0, if k + 1 < S.length then S.getD (k + 1) 0 - 1 else maxI⟩ := rfl
      have hrng : (List.range (k + 1)).map (runR S) = (List.range k).map (runR S) ++ [runR S k] := by rw [List.range_succ, List.map_append]; rfl
      have hL : ((List.range k).map (runR S)).length = k := by simp
      generalize (List.range k).map (runR S) = R at hown hrng hL
      unfold ownR at hown
      rw [hL] at hown
      by_cases h1 : k + 1 < S.length
      · have hck1 := hbel.cell (p := ⟨g, off + (k + 1), none⟩) (cell_lt (hc (k + 1) h1))
        rw [hc (k + 1) h1] at hck1
        have e2 : S.getD (k + 1) 0 = S[k + 1] := by simp [List.getD, h1]
        have hlt2 := List.pairwise_iff_getElem.1 hSs.out k (k + 1) hlt h1 (by omega)
        obtain ⟨hJ1, hJ2⟩ := hSI.out _ (List.getElem_mem h1)
        obtain ⟨hJ3, hJ4⟩ := hSI.out _ (List.getElem_mem hlt)
        rw [if_pos h1, e1, e2] at hrk
        generalize S[k] = lo at hck hrk hlt2 hJ3 hJ4
        generalize S[k + 1] = nx at hck1 hrk hlt2 hJ1 hJ2
        have hkk : (k : Int) < (S.length : Int) - 1 := by omega
        clear hc e1 e2 hI1 hI2
        replace hrk := Lib.hid hrk
        replace hrng := Lib.hid hrng
        replace hL := Lib.hid hL
        go_upto_region 9 with (fail)
        go_wp2_with (first
          | (at_builtin; refine wpList_append_own _ rfl _ _ 22 rfl w1.heap.size 28 i0 (.agg #[.int .i64 0, .int .i64 0]) 2 16 Try.underlying22 hi.out hz0 hz1 hz2 rfl (by decide) _ _ _ rfl (World.ownsRow.alloc hown _) ⟨_, 0, none⟩ 1 1 (⟨lo, nx - 1⟩ : Rg).cells rfl rfl ?c1 ?c2 ?c3 ?c4 ?c5 ?_))
        case c1 => exact World.news_of_block (cs := (⟨lo, nx - 1⟩ : Rg).cells.toArray) (t := 28) (fr := (0, 0)) (heap_alloc_new wr _)
        case c2 => intro u hu; simp at hu; rcases hu with rfl | rfl <;> rfl
        case c3 => unfold maxLen; omega
        case c4 => omega
        case c5 => simp; omega
        intro v2 w2 hown2 hgrow2 _
        have ho2 : ownR w2 w1.heap.size 28 v2 (R ++ [⟨lo, nx - 1⟩]) := ownR_snoc hL.out.symm hown2
        have hb2 : Below w1.heap.size w1 w2 := (hbel.alloc hsz _).grown hgrow2 (by simp; omega) (fun k hk => (hown.lt k hk).1)
        replace ho2 := Lib.hid ho2
        replace hb2 := Lib.hid hb2
        clear hown2 hgrow2 hown hbel
        go_wp2
        go_roundw
        case rel => exact ⟨k + 1, by omega, by go_num, by rw [hrng.out, hrk.out]; exact ho2.out, hb2.out⟩
        case measure => simp [intOf]; omega
      · rw [if_neg h1, e1] at hrk
        generalize S[k] = lo at hck hrk
        have hkk : ¬ (k : Int) < (S.length : Int) - 1 := by omega
        clear hc e1 hI1 hI2
        replace hrk := Lib.hid hrk
        replace hrng := Lib.hid hrng
        replace hL := Lib.hid hL
        go_upto_region 9 with (fail)
        go_wp2_with (first
          | (at_builtin; refine wpList_append_own _ rfl _ _ 22 rfl w1.heap.size 28 i0 (.agg #[.int .i64 0, .int .i64 0]) 2 16 Try.underlying22 hi.out hz0 hz1 hz2 rfl (by decide) _ _ _ rfl (World.ownsRow.alloc hown _) ⟨_, 0, none⟩ 1 1 (⟨lo, maxI⟩ : Rg).cells rfl rfl ?d1 ?d2 ?d3 ?d4 ?d5 ?_))
        case d2 => first | (intro u hu; simp at hu; rcases hu with rfl | rfl <;> rfl) | exact ⟨rfl, rfl⟩ | rfl | simp [Value.oneCell']
        case d3 => unfold maxLen; omega
        case d4 => omega
        case d5 => first | omega | (simp; omega)
        intro v2 w2 hown2 hgrow2 _
        have ho2 : ownR w2 w1.heap.size 28 v2 (R ++ [⟨lo, maxI⟩]) := ownR_snoc hL.out.symm hown2
        have hb2 : Below w1.heap.size w1 w2 := (hbel.alloc hsz _).grown hgrow2 (by simp; omega) (fun k hk => (hown.lt k hk).1)
        replace ho2 := Lib.hid ho2
        replace hb2 := Lib.hid hb2
        clear hown2 hgrow2 hown hbel
        go_wp2
        go_roundw
        case rel => exact ⟨k + 1, by omega, by go_num, by rw [hrng.out, hrk.out]; exact ho2.out, hb2.out⟩
        case measure => simp [intOf]; omega
    · obtain rfl : k = S.length := by omega
      have hB := Lib.hid (hb1.out.trans (hbel.mono hb1.out.size))
      have hoF : ownR wr w.heap.size 28 u4 (runsR S) := row_base hown hb1.out.size
      replace hoF := Lib.hid hoF
      clear hown hbel
      go_wp2
      go_ret
      exact ⟨_, rfl, by rw [hS.out]; exact hoF.out, hB.out⟩
end Go.Proofs.Ytimffflhfaiakaa
