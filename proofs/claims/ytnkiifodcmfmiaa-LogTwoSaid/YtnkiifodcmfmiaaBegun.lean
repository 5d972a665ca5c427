/- Contract: does the log's first try hold? (it does) -/
import Derived.Test.YtnkiifodcmfmiaaLawL
import Derived.Test.YtnkiifodcmfmiaaPlanB
namespace Go.Proofs.Ytnkiifodcmfmiaa
open Go.RowKit
set_option linter.unusedVariables false

abbrev eB : Ent := ⟨1, 1, 1, 0, 0, 5, ⟨#[]⟩⟩
abbrev fB : Ent := ⟨2, 1, 1, 0, 0, 7, ⟨#[]⟩⟩

theorem rdE_one (w : World) (e : Ent) (E : TypeId) (n : Nat) (hn : n = w.heap.size) : rdE (w.alloc (.cells #[.int .i64 e.frm, .int .i64 e.boot, .int .i64 e.seq, .int .i64 e.ord, .int .i64 e.lev, .int .i64 e.stamp, .string e.data] E)) (.slice (some ⟨n, 0, none⟩) 1 1) [e] := by
  subst hn
  refine ⟨_, 1, rfl, Nat.le_refl _, by decide, fun _ => ⟨w.heap.size, 0, rfl, fun j hj => ?_⟩⟩
  obtain rfl : j = 0 := by simp at hj; exact hj
  simp [cellsE]
theorem rdE_pair (w : World) (e f : Ent) (E : TypeId) (n : Nat) (hn : n = w.heap.size) :
    rdE (w.alloc (.cells #[.int .i64 e.frm, .int .i64 e.boot, .int .i64 e.seq, .int .i64 e.ord, .int .i64 e.lev, .int .i64 e.stamp, .string e.data, .int .i64 f.frm, .int .i64 f.boot, .int .i64 f.seq, .int .i64 f.ord, .int .i64 f.lev, .int .i64 f.stamp, .string f.data] E)) (.slice (some ⟨n, 0, none⟩) 2 2) [e, f] := by
  subst hn
  refine ⟨_, 2, rfl, Nat.le_refl _, by decide, fun _ => ⟨w.heap.size, 0, rfl, fun j hj => ?_⟩⟩
  match j, hj with
  | 0, _ => simp [cellsE]
  | 1, _ => simp [cellsE]
  | n + 2, h => simp at h; omega

theorem b13_ok0 : okAdd [] eB = true := by decide +kernel
theorem b13_ok1 : okAdd [eB] fB = true := by decide +kernel
theorem b13_eq : eqAll [eB] [eB] = true := by decide +kernel
theorem b13_has : hasE [eB, fB] fB = true := by decide +kernel
theorem b13_from1 : fromE [eB, fB] 1 = [fB] := by simp [fromE]
theorem b13_from0 : fromE [eB, fB] 0 = [eB, fB] := by simp [fromE]
theorem b13_front1 : frontE [eB] [eB, fB] = true := by decide +kernel
theorem b13_front2 : frontE [eB, fB] [eB] = false := by decide +kernel
theorem b13_new : logE [eB] = [eB] := by simp [logE, addE, b13_ok0]
theorem b13_put : putTo [eB] 0 [eB, fB] 2 = some [eB, fB] := by kernel_rfl
theorem b13_add : okAdd [eB, fB] eB = false := by decide +kernel
theorem b13_add2 : addE [eB, fB] eB = [eB, fB] := by simp [addE, b13_add]

set_option maxHeartbeats 2000000 in
theorem b13_any (w : World) : Calls Try.prog 11 #[] w fun r w' => r = .returned (.bool true) ∧ Below w.heap.size w w' := by
  go_enter Try.func11, Try.ntmps11
  go_wp2_with fail
  have hc1 : cellsE ((w.alloc (boxE eB)).alloc (boxE fB)) w.heap.size 0 eB := (box_cells w eB 34).below ((Below.refl _ _).alloc (Nat.le_refl _) _) (box_cells w eB 34).lt
  have hc2 : cellsE ((w.alloc (boxE eB)).alloc (boxE fB)) (w.heap.size + 1) 0 fB := by
    have := box_cells (w.alloc (boxE eB)) fB 34
    rwa [show (w.alloc (boxE eB)).heap.size = w.heap.size + 1 by simp] at this
  have hB : Below w.heap.size w ((w.alloc (boxE eB)).alloc (boxE fB)) := ((Below.refl _ w).alloc (Nat.le_refl _) _).alloc (by simp) _
  have hsz : ((w.alloc (boxE eB)).alloc (boxE fB)).heap.size = w.heap.size + 1 + 1 := by simp
  rw [← hsz]
  generalize hW : World.alloc (World.alloc w _) _ = W at hc1 hc2 hB hsz ⊢
  clear hW hsz
  generalize w.heap.size + 1 = n2 at hc2 ⊢
  obtain ⟨n1, hn1⟩ : ∃ n, n = w.heap.size := ⟨_, rfl⟩
  rw [← hn1] at hc1 ⊢
  replace hn1 := Lib.hid hn1
  have hr1 : rdE (W.alloc (boxE eB)) (.slice (some ⟨W.heap.size, 0, none⟩) 1 1) [eB] := rdE_one W eB 34 _ rfl
  have hb0 : Below W.heap.size W (W.alloc (boxE eB)) := (Below.refl _ W).alloc (Nat.le_refl _) _
  refine (logNew_any _ [eB] _ hr1).mono ?_
  rintro r w1 ⟨b, rfl, hbb, hlg, hb1⟩
  rw [b13_new] at hlg
  have hlo : W.heap.size ≤ b := by simp at hbb; omega
  have hB1 := hb0.trans (hb1.mono hb0.size)
  have hlg1 := hlg.mono (G := fun k => W.heap.size ≤ k) fun k hk => by have := hk.1; simp at this; omega
  clear hr1 hb0 hb1 hlg hbb
  replace hlg1 := Lib.hid hlg1
  replace hB1 := Lib.hid hB1
  replace hc1 := Lib.hid hc1
  replace hc2 := Lib.hid hc2
  replace hB := Lib.hid hB
  go_upto_region 6 with (fail)
  obtain ⟨e0, e1, e2, e3, e4, e5, e6⟩ := cellsE_up0 hc1.out
  obtain ⟨f0, f1, f2, f3, f4, f5, f6⟩ := cellsE_up0 hc2.out
  dsimp only [eB, fB] at e0 e1 e2 e3 e4 e5 e6 f0 f1 f2 f3 f4 f5 f6
  refine wp_region_pl W (.q 0 (.q 1 (.q 2 (.q 5 (.q 6 (.l 3 (.l 4 (.l 7 (.q 8 (.q 9 .fin)))))))))) (by kernel_rfl) (by kernel_rfl) hB1.out ?_
  intro w2 hheap hb2 hbw
  clear hheap
  repeat (refine pl_q rfl ?_; go_big_quiet_step (fail); refine wpQuiet_nil ?_)
  refine pl_l rfl rfl ?_
  intro K hK
  go_simp
  have hlg2 := hlg1.out.grow hbw
  have hal : Below w2.heap.size w2 (w2.alloc (.cells #[.int .i64 1, .int .i64 1, .int .i64 1, .int .i64 0, .int .i64 0, .int .i64 5, .string ⟨#[]⟩, .int .i64 2, .int .i64 1, .int .i64 1, .int .i64 0, .int .i64 0, .int .i64 7, .string ⟨#[]⟩] 34)) := (Below.refl _ w2).alloc (Nat.le_refl _) _
  have hbA : Below W.heap.size W (w2.alloc (.cells #[.int .i64 1, .int .i64 1, .int .i64 1, .int .i64 0, .int .i64 0, .int .i64 5, .string ⟨#[]⟩, .int .i64 2, .int .i64 1, .int .i64 1, .int .i64 0, .int .i64 0, .int .i64 7, .string ⟨#[]⟩] 34)) := hb2.alloc hb2.size _
  have hlgA := hlg2.grow hal
  have hrA : rdE (w2.alloc (.cells #[.int .i64 1, .int .i64 1, .int .i64 1, .int .i64 0, .int .i64 0, .int .i64 5, .string ⟨#[]⟩, .int .i64 2, .int .i64 1, .int .i64 1, .int .i64 0, .int .i64 0, .int .i64 7, .string ⟨#[]⟩] 34)) (.slice (some ⟨w2.heap.size, 0, none⟩) 2 2) [eB, fB] := rdE_pair w2 eB fB 34 _ rfl
  clear hal hlg2
  refine hK W _ _ (Below.refl _ _) hbA ?_
  clear hK K
  generalize hwA : World.alloc w2 _ = wA at hbA hlgA hrA ⊢
  clear hwA
  refine pl_l rfl rfl ?_
  intro K hK
  go_simp
  have hP := logPut_in b _ [eB] [eB, fB] 0 1 _ _ hlgA hrA (Nat.zero_le _) (by decide) (by decide)
  rw [show ((0 : Nat) : Int) = 0 from rfl] at hP
  refine hP.mono ?_
  clear hP
  rintro r w4 ⟨rfl, hlg4, hc4⟩
  have hp : putTo [eB] 0 [eB, fB] [eB, fB].length = some [eB, fB] := b13_put
  rw [hp] at hlg4 ⊢
  clear hp
  replace hlg4 := (hlg4.mono (G := fun k => W.heap.size ≤ k) fun k hk => hk.elim id fun hk => Nat.le_trans hbA.size hk.1)
  have hB4 := hbA.trans (hc4.below hbA.size fun k hk => hk)
  refine hK W _ _ (Below.refl _ _) hB4 ?_
  clear hK K hlgA hrA hbA hc4
  refine pl_l rfl rfl ?_
  intro K hK
  go_simp
  refine (logAdd_any b _ eB _ _ hlg4 (by simp)).mono ?_
  rintro r w5 ⟨rfl, hlg5, hc5⟩
  simp only [Option.getD_some] at hlg5 ⊢
  rw [b13_add2] at hlg5
  rw [b13_add]
  replace hlg5 := (hlg5.mono (G := fun k => W.heap.size ≤ k) fun k hk => hk.elim id fun hk => Nat.le_trans hB4.size hk.1)
  have hB5 := hB4.trans (hc5.below hB4.size fun k hk => hk)
  refine hK W _ _ (Below.refl _ _) hB5 ?_
  clear hK K hlg4 hc5 hB4 hlg1 hbw hB1
  repeat (refine pl_q rfl ?_; go_big_quiet_step (fail); refine wpQuiet_nil ?_)
  refine pl_fin ?_
  clear hb2
  replace hlg5 := Lib.hid hlg5
  replace hc1 := Lib.hid (hc1.out.below hB5 hc1.out.lt)
  replace hc2 := Lib.hid (hc2.out.below hB5 hc2.out.lt)
  replace hB5 := Lib.hid (hB.out.trans (hB5.mono hB.out.size))
  clear e0 e1 e2 e3 e4 e5 e6 f0 f1 f2 f3 f4 f5 f6 hB
  have hAt := logAt_yes b [eB, fB] 1 w5 hlg5.out.rd (by decide)
  rw [show ((1 : Nat) : Int) + 1 = 2 from rfl] at hAt
  replace hAt := Lib.hid hAt
  go_wp2_with fail
  refine hAt.out.mono ?_
  clear hAt
  rintro r w6 ⟨rfl, hb6⟩
  simp only [List.getElem_cons_succ, List.getElem_cons_zero]
  have hrl : rdLog (w6.alloc (boxE fB)) b [eB, fB] := (hlg5.out.rd.grow hb6).grow ((Below.refl _ _).alloc (Nat.le_refl _) _)
  have hx := box_cells w6 fB 34
  have hB8 : Below w.heap.size w (w6.alloc (boxE fB)) := (hB5.out.trans (hb6.mono hB5.out.size)).alloc (by have := hB5.out.size; have := hb6.size; omega) _
  have hc1' := ((hc1.out.below hb6 hc1.out.lt).below (w' := w6.alloc (boxE fB)) ((Below.refl _ _).alloc (Nat.le_refl _) _) (hc1.out.below hb6 hc1.out.lt).lt)
  have hc2' := ((hc2.out.below hb6 hc2.out.lt).below (w' := w6.alloc (boxE fB)) ((Below.refl _ _).alloc (Nat.le_refl _) _) (hc2.out.below hb6 hc2.out.lt).lt)
  clear hc1 hc2 hB5 hb6 hlg5
  replace hrl := Lib.hid hrl
  replace hx := Lib.hid hx
  replace hB8 := Lib.hid hB8
  replace hc1' := Lib.hid hc1'
  replace hc2' := Lib.hid hc2'
  go_upto_region 8 with (fail)
  generalize hV : World.alloc w6 _ = V at hrl hx hB8 hc1' hc2' ⊢
  clear hV
  generalize w6.heap.size = nx at hx ⊢
  obtain ⟨e0, e1, e2, e3, e4, e5, e6⟩ := cellsE_up0 hc1'.out
  obtain ⟨f0, f1, f2, f3, f4, f5, f6⟩ := cellsE_up0 hc2'.out
  obtain ⟨x0, x1, x2, x3, x4, x5, x6⟩ := cellsE_up0 hx.out
  dsimp only [eB, fB] at e0 e1 e2 e3 e4 e5 e6 f0 f1 f2 f3 f4 f5 f6 x0 x1 x2 x3 x4 x5 x6
  clear x1 x2 x3 x4 x5 x6
  refine wp_region_pl V (.q 0 (.q 1 (.q 2 (.q 3 (.q 4 (.q 5 (.q 6 (.q 7 (.q 8 (.q 9 (.q 10 (.q 11 (.q 12 (.q 13 (.q 14 (.l 15 (.q 16 (.q 17 (.q 18 (.q 19 (.q 20 (.l 21 (.q 22 (.q 23 (.q 24 (.l 25 (.l 26 (.q 27 (.q 28 (.q 29 (.q 30 (.q 32 (.two 31 (.l 33 (.l 34 (.q 35 (.q 36 (.q 37 (.q 39 (.two 38 (.l 40 (.l 41 (.q 42 (.q 43 (.q 44 .fin))))) 40 (.l 38 (.l 41 (.q 42 (.q 43 (.q 44 .fin)))))))))))) 33 (.l 31 (.l 34 (.q 35 (.q 36 (.q 37 (.q 39 (.two 38 (.l 40 (.l 41 (.q 42 (.q 43 (.q 44 .fin))))) 40 (.l 38 (.l 41 (.q 42 (.q 43 (.q 44 .fin))))))))))))))))))))))))))))))))))))))))))))) (by kernel_rfl) (by kernel_rfl) (Below.refl _ _) ?_
  intro v0 hheap hv0 hbw
  clear hheap hbw
  repeat (refine pl_q rfl ?_; go_big_quiet_step (fail); refine wpQuiet_nil ?_)
  refine pl_l rfl rfl ?_
  intro K hK
  go_simp
  refine (logLen_any b _ _ (hrl.out.grow hv0)).mono ?_
  rintro r v1 ⟨rfl, rfl⟩
  rw [show (([eB, fB] : List Ent).length : Int) = 2 from rfl]
  refine hK V _ _ (Below.refl _ _) hv0 ?_
  clear hK K
  repeat (refine pl_q rfl ?_; go_big_quiet_step (fail); refine wpQuiet_nil ?_)
  refine pl_l rfl rfl ?_
  intro K hK
  go_simp
  refine (logHas_any b _ fB _ (hrl.out.grow hv0)).mono ?_
  rintro r v1 ⟨rfl, hbb⟩
  rw [b13_has]
  have hv1 := hv0.trans (hbb.mono hv0.size)
  refine hK V _ _ (Below.refl _ _) hv1 ?_
  clear hK K hbb hv0
  repeat (refine pl_q rfl ?_; go_big_quiet_step (fail); refine wpQuiet_nil ?_)
  refine pl_l rfl rfl ?_
  intro K hK
  go_simp
  refine (logFrom_any b _ 1 _ (hrl.out.grow hv1) (by decide)).mono ?_
  rintro r v2 ⟨u2, rfl, ho, hbb⟩
  rw [b13_from1] at ho
  obtain ⟨a2, c2, rfl⟩ := ho.rd.len
  clear ho
  have hv2 := hv1.trans (hbb.mono hv1.size)
  refine hK V _ _ (Below.refl _ _) hv2 ?_
  clear hK K hbb hv1
  refine pl_l rfl rfl ?_
  intro K hK
  go_simp
  refine hK V _ _ (Below.refl _ _) hv2 ?_
  clear hK K
  repeat (refine pl_q rfl ?_; go_big_quiet_step (fail); refine wpQuiet_nil ?_)
  refine pl_two ?_ ?_
  · refine pl_l rfl rfl ?_
    intro K hK
    go_simp
    have hv3 : Below V.heap.size V (v2.alloc (boxE eB)) := hv2.alloc hv2.size _
    have hra : rdE (v2.alloc (boxE eB)) (.slice (some ⟨v2.heap.size, 0, none⟩) 1 1) [eB] := rdE_one v2 eB 34 _ rfl
    refine hK V _ _ (Below.refl _ _) hv3 ?_
    clear hK K
    generalize hvv : World.alloc v2 _ = v3 at hv3 hra ⊢
    clear hvv
    generalize v2.heap.size = z3 at hra ⊢
    refine pl_l rfl rfl ?_
    intro K hK
    go_simp
    refine (logFrom_any b _ 0 _ (hrl.out.grow hv3) (by decide)).mono ?_
    rintro r v4 ⟨u4, rfl, ho, hbb⟩
    rw [b13_from0] at ho
    have hrb := ho.rd
    clear ho
    have hv4 := hv3.trans (hbb.mono hv3.size)
    have hra := hra.grow hbb
    refine hK V _ _ (Below.refl _ _) hv4 ?_
    clear hK K hbb
    refine pl_l rfl rfl ?_
    intro K hK
    go_simp
    refine (logFront_any _ _ [eB] [eB, fB] _ hra hrb).mono ?_
    rintro r v5 ⟨rfl, hbb⟩
    rw [b13_front1]
    have hv5 := hv4.trans (hbb.mono hv4.size)
    refine hK V _ _ (Below.refl _ _) hv5 ?_
    clear hK K hbb
    clear hra hrb
    repeat (refine pl_q rfl ?_; go_big_quiet_step (fail); refine wpQuiet_nil ?_)
    refine pl_two ?_ ?_
    · refine pl_l rfl rfl ?_
      intro K hK
      go_simp
      refine (logFrom_any b _ 0 _ (hrl.out.grow hv5) (by decide)).mono ?_
      rintro r v6 ⟨u6, rfl, ho, hbb⟩
      rw [b13_from0] at ho
      have hrb := ho.rd
      clear ho
      have hv6 := hv5.trans (hbb.mono hv5.size)
      refine hK V _ _ (Below.refl _ _) hv6 ?_
      clear hK K hbb
      refine pl_l rfl rfl ?_
      intro K hK
      go_simp
      have hv7 : Below V.heap.size V (v6.alloc (boxE eB)) := hv6.alloc hv6.size _
      have hrb := hrb.grow (w' := v6.alloc (boxE eB)) ((Below.refl _ _).alloc (Nat.le_refl _) _)
      have hra : rdE (v6.alloc (boxE eB)) (.slice (some ⟨v6.heap.size, 0, none⟩) 1 1) [eB] := rdE_one v6 eB 34 _ rfl
      refine hK V _ _ (Below.refl _ _) hv7 ?_
      clear hK K
      generalize hvv : World.alloc v6 _ = v7 at hv7 hra hrb ⊢
      clear hvv
      generalize v6.heap.size = z7 at hra ⊢
      refine pl_l rfl rfl ?_
      intro K hK
      go_simp
      refine (logFront_any _ _ [eB, fB] [eB] _ hrb hra).mono ?_
      rintro r v8 ⟨rfl, hbb⟩
      rw [b13_front2]
      have hv8 := hv7.trans (hbb.mono hv7.size)
      refine hK V _ _ (Below.refl _ _) hv8 ?_
      clear hK K hbb
      repeat (refine pl_q rfl ?_; go_big_quiet_step (fail); refine wpQuiet_nil ?_)
      refine pl_fin ?_
      have hEnd := hB8.out.trans (hv8.mono hB8.out.size)
      clear hra hrb e0 e1 e2 e3 e4 e5 e6 f0 f1 f2 f3 f4 f5 f6 x0
      go_wp2
      go_ret
      exact ⟨ret_bool (by simp), hEnd⟩
    · refine pl_l rfl rfl ?_
      intro K hK
      go_simp
      have hv6 : Below V.heap.size V (v5.alloc (boxE eB)) := hv5.alloc hv5.size _
      have hra : rdE (v5.alloc (boxE eB)) (.slice (some ⟨v5.heap.size, 0, none⟩) 1 1) [eB] := rdE_one v5 eB 34 _ rfl
      refine hK V _ _ (Below.refl _ _) hv6 ?_
      clear hK K
      generalize hvv : World.alloc v5 _ = v6 at hv6 hra ⊢
      clear hvv
      generalize v5.heap.size = z6 at hra ⊢
      refine pl_l rfl rfl ?_
      intro K hK
      go_simp
      refine (logFrom_any b _ 0 _ (hrl.out.grow hv6) (by decide)).mono ?_
      rintro r v7 ⟨u7, rfl, ho, hbb⟩
      rw [b13_from0] at ho
      have hrb := ho.rd
      clear ho
      have hv7 := hv6.trans (hbb.mono hv6.size)
      have hra := hra.grow hbb
      refine hK V _ _ (Below.refl _ _) hv7 ?_
      clear hK K hbb
      refine pl_l rfl rfl ?_
      intro K hK
      go_simp
      refine (logFront_any _ _ [eB, fB] [eB] _ hrb hra).mono ?_
      rintro r v8 ⟨rfl, hbb⟩
      rw [b13_front2]
      have hv8 := hv7.trans (hbb.mono hv7.size)
      refine hK V _ _ (Below.refl _ _) hv8 ?_
      clear hK K hbb
      repeat (refine pl_q rfl ?_; go_big_quiet_step (fail); refine wpQuiet_nil ?_)
      refine pl_fin ?_
      have hEnd := hB8.out.trans (hv8.mono hB8.out.size)
      clear hra hrb e0 e1 e2 e3 e4 e5 e6 f0 f1 f2 f3 f4 f5 f6 x0
      go_wp2
      go_ret
      exact ⟨ret_bool (by simp), hEnd⟩
  · refine pl_l rfl rfl ?_
    intro K hK
    go_simp
    refine (logFrom_any b _ 0 _ (hrl.out.grow hv2) (by decide)).mono ?_
    rintro r v3 ⟨u3, rfl, ho, hbb⟩
    rw [b13_from0] at ho
    have hrb := ho.rd
    clear ho
    have hv3 := hv2.trans (hbb.mono hv2.size)
    refine hK V _ _ (Below.refl _ _) hv3 ?_
    clear hK K hbb
    refine pl_l rfl rfl ?_
    intro K hK
    go_simp
    have hv4 : Below V.heap.size V (v3.alloc (boxE eB)) := hv3.alloc hv3.size _
    have hrb := hrb.grow (w' := v3.alloc (boxE eB)) ((Below.refl _ _).alloc (Nat.le_refl _) _)
    have hra : rdE (v3.alloc (boxE eB)) (.slice (some ⟨v3.heap.size, 0, none⟩) 1 1) [eB] := rdE_one v3 eB 34 _ rfl
    refine hK V _ _ (Below.refl _ _) hv4 ?_
    clear hK K
    generalize hvv : World.alloc v3 _ = v4 at hv4 hra hrb ⊢
    clear hvv
    generalize v3.heap.size = z4 at hra ⊢
    refine pl_l rfl rfl ?_
    intro K hK
    go_simp
    refine (logFront_any _ _ [eB] [eB, fB] _ hra hrb).mono ?_
    rintro r v5 ⟨rfl, hbb⟩
    rw [b13_front1]
    have hv5 := hv4.trans (hbb.mono hv4.size)
    refine hK V _ _ (Below.refl _ _) hv5 ?_
    clear hK K hbb
    clear hra hrb
    repeat (refine pl_q rfl ?_; go_big_quiet_step (fail); refine wpQuiet_nil ?_)
    refine pl_two ?_ ?_
    · refine pl_l rfl rfl ?_
      intro K hK
      go_simp
      refine (logFrom_any b _ 0 _ (hrl.out.grow hv5) (by decide)).mono ?_
      rintro r v6 ⟨u6, rfl, ho, hbb⟩
      rw [b13_from0] at ho
      have hrb := ho.rd
      clear ho
      have hv6 := hv5.trans (hbb.mono hv5.size)
      refine hK V _ _ (Below.refl _ _) hv6 ?_
      clear hK K hbb
      refine pl_l rfl rfl ?_
      intro K hK
      go_simp
      have hv7 : Below V.heap.size V (v6.alloc (boxE eB)) := hv6.alloc hv6.size _
      have hrb := hrb.grow (w' := v6.alloc (boxE eB)) ((Below.refl _ _).alloc (Nat.le_refl _) _)
      have hra : rdE (v6.alloc (boxE eB)) (.slice (some ⟨v6.heap.size, 0, none⟩) 1 1) [eB] := rdE_one v6 eB 34 _ rfl
      refine hK V _ _ (Below.refl _ _) hv7 ?_
      clear hK K
      generalize hvv : World.alloc v6 _ = v7 at hv7 hra hrb ⊢
      clear hvv
      generalize v6.heap.size = z7 at hra ⊢
      refine pl_l rfl rfl ?_
      intro K hK
      go_simp
      refine (logFront_any _ _ [eB, fB] [eB] _ hrb hra).mono ?_
      rintro r v8 ⟨rfl, hbb⟩
      rw [b13_front2]
      have hv8 := hv7.trans (hbb.mono hv7.size)
      refine hK V _ _ (Below.refl _ _) hv8 ?_
      clear hK K hbb
      repeat (refine pl_q rfl ?_; go_big_quiet_step (fail); refine wpQuiet_nil ?_)
      refine pl_fin ?_
      have hEnd := hB8.out.trans (hv8.mono hB8.out.size)
      clear hra hrb e0 e1 e2 e3 e4 e5 e6 f0 f1 f2 f3 f4 f5 f6 x0
      go_wp2
      go_ret
      exact ⟨ret_bool (by simp), hEnd⟩
    · refine pl_l rfl rfl ?_
      intro K hK
      go_simp
      have hv6 : Below V.heap.size V (v5.alloc (boxE eB)) := hv5.alloc hv5.size _
      have hra : rdE (v5.alloc (boxE eB)) (.slice (some ⟨v5.heap.size, 0, none⟩) 1 1) [eB] := rdE_one v5 eB 34 _ rfl
      refine hK V _ _ (Below.refl _ _) hv6 ?_
      clear hK K
      generalize hvv : World.alloc v5 _ = v6 at hv6 hra ⊢
      clear hvv
      generalize v5.heap.size = z6 at hra ⊢
      refine pl_l rfl rfl ?_
      intro K hK
      go_simp
      refine (logFrom_any b _ 0 _ (hrl.out.grow hv6) (by decide)).mono ?_
      rintro r v7 ⟨u7, rfl, ho, hbb⟩
      rw [b13_from0] at ho
      have hrb := ho.rd
      clear ho
      have hv7 := hv6.trans (hbb.mono hv6.size)
      have hra := hra.grow hbb
      refine hK V _ _ (Below.refl _ _) hv7 ?_
      clear hK K hbb
      refine pl_l rfl rfl ?_
      intro K hK
      go_simp
      refine (logFront_any _ _ [eB, fB] [eB] _ hrb hra).mono ?_
      rintro r v8 ⟨rfl, hbb⟩
      rw [b13_front2]
      have hv8 := hv7.trans (hbb.mono hv7.size)
      refine hK V _ _ (Below.refl _ _) hv8 ?_
      clear hK K hbb
      repeat (refine pl_q rfl ?_; go_big_quiet_step (fail); refine wpQuiet_nil ?_)
      refine pl_fin ?_
      have hEnd := hB8.out.trans (hv8.mono hB8.out.size)
      clear hra hrb e0 e1 e2 e3 e4 e5 e6 f0 f1 f2 f3 f4 f5 f6 x0
      go_wp2
      go_ret
      exact ⟨ret_bool (by simp), hEnd⟩
end Go.Proofs.Ytnkiifodcmfmiaa
