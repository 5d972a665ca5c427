/- Contract: does the votes' first try hold? (it does) -/
import Derived.Test.YtacchkmdheglaaaVtE
import Derived.Test.YtacchkmdheglaaaEntO
namespace Go.Proofs.Ytacchkmdheglaaa
open Go.RowKit
set_option linter.unusedVariables false

theorem rdE_one1 (w : World) (e : Ent) (E : TypeId) (n : Nat) (hn : n = w.heap.size) : rdE (w.alloc (.cells #[.int .i64 e.frm, .int .i64 e.boot, .int .i64 e.seq, .int .i64 e.ord, .int .i64 e.lev, .int .i64 e.stamp, .string e.data] E)) (.slice (some ⟨n, 0, none⟩) 1 1) [e] := by
  subst hn
  refine ⟨_, 1, rfl, Nat.le_refl _, by decide, fun _ => ⟨w.heap.size, 0, rfl, fun j hj => ?_⟩⟩
  obtain rfl : j = 0 := by simp at hj; exact hj
  simp [cellsE]
theorem rdE_nil0 (w : World) (a : Option Addr) (c : Nat) (hc : c ≤ maxLen) : rdE w (.slice a 0 c) [] := ⟨a, c, rfl, Nat.zero_le _, hc, fun h => by simp at h⟩

set_option maxRecDepth 100000 in
set_option maxHeartbeats 4000000 in
theorem b20_any (w : World) : Calls Try.prog 19 #[] w fun r w' => r = .returned (.bool true) ∧ Below w.heap.size w w' := by
  go_enter Try.func19, Try.ntmps19
  go_wp2_with fail
  refine (vNew_st 5 3 _ (by omega) (by omega) (by decide)).mono ?_
  rintro r w1 ⟨b, rfl, hS, hb1⟩
  have hw1 := hb1.size
  have hS2 := hS.more (w' := w1.alloc (boxE eC)) ((Below.refl _ _).alloc (Nat.le_refl _) _)
  have hx2 := at_new w1 (boxE eC)
  have hB2 : Below w.heap.size w (w1.alloc (boxE eC)) := hb1.alloc hw1 _
  have hsz2 : (w1.alloc (boxE eC)).heap.size = w1.heap.size + 1 := by simp
  replace hS2 := Lib.hid hS2
  replace hx2 := Lib.hid hx2
  replace hB2 := Lib.hid hB2
  replace hsz2 := Lib.hid hsz2
  clear hS hb1
  go_wp2_with fail
  refine (vAdd_st b 5 3 [] ⟨2, 3, [], 0⟩ (.slice none 0 0) _ w _ hS2.out hB2.out.size (rdE_nil0 _ _ _ (by decide)) (by simp)).mono ?_
  rintro r w3 ⟨rfl, l1, hS3, hm3, hc3⟩
  rw [b20_ok1] at hm3 ⊢
  obtain ⟨s1, rfl⟩ := map_one (by simpa using hm3)
  have hx3 := at_chg hx2.out hc3 (fun h => h.2 (.inr ⟨Nat.le_refl _, by have := hsz2.out; omega⟩))
  have hB3 := hB2.out.trans (hc3.below hB2.out.size fun k hk => hk.1)
  clear hm3 hc3 hS2 hx2 hB2 hsz2
  replace hS3 := Lib.hid hS3
  replace hx3 := Lib.hid hx3
  replace hB3 := Lib.hid hB3
  go_wp2_with fail
  refine (vBest_no b 5 3 _ _ hS3.out.rd (b20_m1 s1)).mono ?_
  rintro r w4 ⟨rfl, hb4⟩
  have hx4 := at_below hx3.out hb4
  have hS4 := hS3.out.grow hb4
  have hB4 := hB3.out.trans (hb4.mono hB3.out.size)
  have h41 : w1.heap.size < w4.heap.size := at_lt hx4
  have e0 := cell_at hx4 0
  have e1 := cell_at hx4 1
  have e2 := cell_at hx4 2
  have e3 := cell_at hx4 3
  have e4 := cell_at hx4 4
  have e5 := cell_at hx4 5
  have e6 := cell_at hx4 6
  simp only [List.getElem?_toArray, List.getElem?_cons_zero, List.getElem?_cons_succ] at e0 e1 e2 e3 e4 e5 e6
  have hne4 : ¬ w1.heap.size = w4.heap.size := by omega
  have hb5 : Below w4.heap.size w4 ((w4.alloc (boxV 0 0 (.slice none 0 0) 0 47)).alloc (boxE eC)) := ((Below.refl _ _).alloc (Nat.le_refl _) _).alloc (by simp) _
  have hS5 := hS4.grow hb5
  have hB5 := hB4.trans (hb5.mono hB4.size)
  have hrow : rdE ((w4.alloc (boxV 0 0 (.slice none 0 0) 0 47)).alloc (boxE eC)) (.slice (some ⟨w4.heap.size + 1, 0, none⟩) 1 1) [eC] := rdE_one1 (w4.alloc (boxV 0 0 (.slice none 0 0) 0 47)) eC 67 _ (by simp)
  clear hx4 hS4 hB4 hb5 hb4 hS3 hx3 hB3
  replace hS5 := Lib.hid hS5
  replace hB5 := Lib.hid hB5
  replace hrow := Lib.hid hrow
  go_wp2_with fail
  refine (vAdd_st b 5 3 _ ⟨1, 4, [eC], 1⟩ (.slice (some ⟨w4.heap.size + 1, 0, none⟩) 1 1) _ w _ hS5.out hB5.out.size hrow.out (by simp)).mono ?_
  rintro r w7 ⟨rfl, l2, hS7, hm7, hc7⟩
  rw [b20_ok2] at hm7 ⊢
  obtain ⟨s2, s3, rfl⟩ := map_two (by simpa using hm7)
  have hB7 := hB5.out.trans (hc7.below hB5.out.size fun k hk => hk.1)
  clear hm7 hc7 hS5 hB5 hrow e0 e1 e2 e3 e4 e5 e6
  replace hS7 := Lib.hid hS7
  replace hB7 := Lib.hid hB7
  have hm2 : mostT (teamV [⟨⟨2, 3, [], 0⟩, s2⟩, ⟨⟨1, 4, [eC], 1⟩, s3⟩] : Nat) 3 = true := by rw [b20_t2]; exact b20_m2
  replace hm2 := Lib.hid hm2
  go_wp2_with fail
  refine (vBest_yes b 5 3 _ ⟨⟨2, 3, [], 0⟩, s2⟩ _ _ _ hS7.out.rd hm2.out (by simp) (by simp) rfl (b20_b2 s2 s3) (b20_c2 s2 s3)).mono ?_
  rintro r w8 ⟨s', rfl, ho8, hb8⟩
  have hS8 := hS7.out.grow hb8
  have hB8 := hB7.out.trans (hb8.mono hB7.out.size)
  obtain ⟨ta, tc, rfl⟩ := ho8.rd.len
  rw [show min (1 : Int) (([eC] : List Ent).length : Int) = 1 from rfl]
  clear ho8 hb8 hS7 hB7
  have hb9 : Below w8.heap.size w8 (w8.alloc (boxV 1 4 (.slice ta 1 tc) 1 47)) := (Below.refl _ _).alloc (Nat.le_refl _) _
  have hS9 := hS8.grow hb9
  have hB9 := hB8.trans (hb9.mono hB8.size)
  clear hb9 hS8 hB8
  replace hS9 := Lib.hid hS9
  replace hB9 := Lib.hid hB9
  go_wp2_with fail
  refine (vTeam_any b 5 3 _ _ hS9.out.rd).mono ?_
  rintro r w10 ⟨rfl, hb10⟩
  rw [b20_t2]
  have hS10 := hS9.out.grow hb10
  have hB10 := hB9.out.trans (hb10.mono hB9.out.size)
  clear hS9 hB9 hb10
  replace hS10 := Lib.hid hS10
  replace hB10 := Lib.hid hB10
  go_wp2_with fail
  refine (vEnough_any b 5 3 _ _ hS10.out.rd).mono ?_
  rintro r w11 ⟨rfl, hb11⟩
  rw [hm2.out]
  have hS11 := hS10.out.grow hb11
  have hB11 := hB10.out.trans (hb11.mono hB10.out.size)
  clear hS10 hB10 hb11
  replace hS11 := Lib.hid hS11
  replace hB11 := Lib.hid hB11
  go_wp2_with fail
  refine (vView_any b 5 3 _ _ hS11.out.rd).mono ?_
  rintro r w12 ⟨rfl, rfl⟩
  go_wp2_with fail
  refine (vAdd_st b 5 3 _ ⟨1, 4, [], 0⟩ (.slice none 0 0) _ w _ hS11.out hB11.out.size (rdE_nil0 _ _ _ (by decide)) (by simp)).mono ?_
  rintro r w13 ⟨rfl, l3, hS13, hm13, hc13⟩
  rw [b20_ok3]
  have hB13 := hB11.out.trans (hc13.below hB11.out.size fun k hk => hk.1)
  clear hm13 hc13 hS13 hS11 hB11 hm2
  go_wp2
  go_ret
  exact ⟨rfl, hB13⟩
end Go.Proofs.Ytacchkmdheglaaa
