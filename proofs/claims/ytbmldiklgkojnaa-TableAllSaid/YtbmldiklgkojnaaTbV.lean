/- Contract of the reference's table: its sum. -/
import Derived.Test.YtbmldiklgkojnaaTbU
namespace Go.Proofs.Ytbmldiklgkojnaa
open Go.RowKit
set_option linter.unusedVariables false

theorem byteV_one (l : List UInt8) : ∀ u ∈ byteV l, u.oneCell' = true := by
  intro u hu
  unfold byteV at hu
  obtain ⟨b, _, rfl⟩ := List.mem_map.1 hu
  rfl

set_option maxRecDepth 100000 in
set_option maxHeartbeats 8000000 in
theorem r12Sum_any (rb : Nat) (L : Tb) (w : World) (h : rtO w rb L) (hl : L.length ≤ 100) (hsm : ∀ p ∈ L, p.1.size ≤ 16 ∧ p.2.size ≤ 16) :
    Calls Try.prog 14 #[.pointer (some ⟨rb, 0, none⟩)] w fun r w' => r = .returned (.int .u32 (crcT (bytesT L) : Nat)) ∧ Below w.heap.size w w' := by
  obtain ⟨i0, hi, hz0, hz1, hz2⟩ := info_parts infoByte
  replace hi := Lib.hid hi
  obtain ⟨v, h1, aa, cap, rfl, hm, hM, ha⟩ := h
  have c0 := cell_at h1 0
  simp only [List.getElem?_toArray, List.getElem?_cons_zero] at c0
  have hrl := at_lt h1
  unfold maxLen at hM
  have hbl := Lib.hid (bytesT_len hsm)
  replace ha := Lib.hid ha
  replace hsm := Lib.hid hsm
  have u0 := upF_cell (F := fun j => w.heap.size ≤ j) (b := w) (Nat.not_le.2 hrl) c0
  clear h1
  go_enter Try.func14, Try.ntmps14
  go_wp2
  go_loopw [3, 4] (fun s i wr => ∃ k : Nat, k ≤ L.length ∧ i = .int .i64 k ∧ ownB wr w.heap.size s (bytesT (L.take k)) ∧ Below w.heap.size w wr) (fun _ i _ => L.length - (intOf i).toNat)
  case atStart => exact ⟨0, Nat.zero_le _, rfl, World.ownsRow_nil _ _ _ _, Below.refl _ _⟩
  case round =>
    obtain ⟨k, hk, rfl, hown, hbel⟩ := hrel
    have hcr := cell_bel c0 hbel
    by_cases hlt : k < L.length
    · obtain ⟨g, off, rfl, hc⟩ := ha.out (by omega)
      obtain ⟨y0, y1⟩ := hc k hlt
      have hgl := cell_lt y0
      have u1 := upF_cell (F := fun j => w.heap.size ≤ j) (b := w) (Nat.not_le.2 hgl) y0
      have u2 := upF_cell (F := fun j => w.heap.size ≤ j) (b := w) (Nat.not_le.2 hgl) y1
      have hst := bytesT_take L k hlt
      have hlen := hbl.out k
      obtain ⟨hs1, hs2⟩ := hsm.out _ (List.getElem_mem hlt)
      clear hc y0 y1
      generalize L[k] = p at u1 u2 hst hs1 hs2
      obtain ⟨nmk, val⟩ := p
      dsimp only at u1 u2 hst hs1 hs2
      generalize bytesT (L.take k) = A at hown hst hlen
      have hl1 : (txtT nmk).length ≤ 17 := by unfold txtT; rw [List.length_cons, size_len]; omega
      have hl2 : (txtT val).length ≤ 17 := by unfold txtT; rw [List.length_cons, size_len]; omega
      have hlA : (A ++ txtT nmk).length ≤ 90000 := by rw [List.length_append]; omega
      have hP1 := fun W => r1PutText_any nmk W (by omega)
      have hP2 := fun W => r1PutText_any val W (by omega)
      generalize txtT nmk = T1 at hst hl1 hlA hP1
      generalize txtT val = T2 at hst hl2 hP2
      replace hst := Lib.hid hst
      replace hown := Lib.hid hown
      replace hbel := Lib.hid hbel
      have hi' := hi.out
      go_upto_region 5 with (fail)
      clear hcr
      refine wp_region_pm (fun j => w.heap.size ≤ j) w (.q 0 (.q 1 (.q 2 (.q 3 (.q 4 (.q 5 (.q 6 (.q 7 (.q 8 (.q 11 (.q 12 (.q 13 (.q 14 (.q 15 (.q 16 (.q 17 (.q 18 (.l 9 (.l 10 (.l 19 (.l 20 (.q 21 .fin)))))))))))))))))))))) (by kernel_rfl) (by kernel_rfl) (.of_below hbel.out) ?_
      intro w2 hheap hb2 _
      have hbel2 := hbel.out.trans (hb2.mono hbel.out.size)
      have hown2 := hown.out.grow hb2
      clear hheap hb2 hbel hown
      repeat (refine pm_q rfl ?_; go_big_quiet_step (fail); refine wpQuiet_nil ?_)
      clear u0 u1 u2
      refine pm_l rfl (by kernel_rfl) ?_
      intro K hK
      go_simp
      refine (hP1 w2).mono ?_
      rintro r w3 ⟨v3, rfl, ho3, hb3⟩
      have hbel3 := hbel2.trans (hb3.mono hbel2.size)
      have hown3 := hown2.grow hb3
      refine hK _ _ (.of_below hbel3) ?_
      clear hK K hown2 hb3 hbel2 hP1
      refine pm_l rfl (by kernel_rfl) ?_
      intro K hK
      refine wp_app _ (.tmp 14) (.tmp 23) 45 rfl w.heap.size w2.heap.size 5 i0 (.int .u8 0) 1 1 Try.underlying45 hi' hz0 hz1 hz2 rfl (by decide) u3 A.length (byteV A) rfl hown3 v3 T1.length (byteV T1) rfl ho3 (byteV_one T1) (by unfold maxLen; omega) (by omega) hbel3.size ?_
      intro v4 w4 hown4 hg4 _
      have hbel4 := hbel3.trans ((Below.refl w.heap.size w3).grown hg4 (by have := hbel3.size; omega) (fun k hk => (World.ownsRow.lt hown3 k hk).1))
      have ho4 : ownB w4 w.heap.size v4 (A ++ T1) := by unfold ownB; rw [List.length_append, byteV_app]; exact hown4
      go_simp
      refine hK _ _ (.of_below hbel4) ?_
      clear hK K hown3 ho3 hbel3 hown4 hg4
      refine pm_l rfl (by kernel_rfl) ?_
      intro K hK
      go_simp
      refine (hP2 w4).mono ?_
      rintro r w5 ⟨v5, rfl, ho5, hb5⟩
      have hbel5 := hbel4.trans (hb5.mono hbel4.size)
      have hown5 := ho4.grow hb5
      refine hK _ _ (.of_below hbel5) ?_
      clear hK K ho4 hb5 hbel4 hP2
      refine pm_l rfl (by kernel_rfl) ?_
      intro K hK
      refine wp_app _ (.tmp 24) (.tmp 33) 45 rfl w.heap.size w4.heap.size 5 i0 (.int .u8 0) 1 1 Try.underlying45 hi' hz0 hz1 hz2 rfl (by decide) v4 (A ++ T1).length (byteV (A ++ T1)) rfl hown5 v5 T2.length (byteV T2) rfl ho5 (byteV_one T2) (by unfold maxLen; omega) (by omega) hbel5.size ?_
      intro v6 w6 hown6 hg6 _
      have hbel6 := hbel5.trans ((Below.refl w.heap.size w5).grown hg6 (by have := hbel5.size; omega) (fun k hk => (World.ownsRow.lt hown5 k hk).1))
      have ho6 : ownB w6 w.heap.size v6 (bytesT (L.take (k + 1))) := by rw [hst.out]; unfold ownB; rw [@List.length_append _ (A ++ T1) T2, byteV_app (A ++ T1) T2]; exact hown6
      go_simp
      refine hK _ _ (.of_below hbel6) ?_
      clear hK K hown5 ho5 hbel5 hown6 hg6
      repeat (refine pm_q rfl ?_; go_big_quiet_step (fail); refine wpQuiet_nil ?_)
      refine pm_fin ?_
      replace ho6 := Lib.hid ho6
      replace hbel6 := Lib.hid hbel6
      go_wp2
      go_roundw
      case rel => exact ⟨k + 1, by omega, by go_num, ho6.out, hbel6.out⟩
      case measure => simp [intOf]; omega
    · obtain rfl : k = L.length := by omega
      rw [List.take_length] at hown
      have hrd := Lib.hid hown.rd
      have hB := Lib.hid hbel
      clear hown hbel
      go_wp2_with fail
      refine (r1Sum_any _ _ _ hrd.out).mono ?_
      rintro r w4 ⟨rfl, rfl⟩
      go_wp2
      go_ret
      exact ⟨rfl, hB.out⟩
end Go.Proofs.Ytbmldiklgkojnaa
