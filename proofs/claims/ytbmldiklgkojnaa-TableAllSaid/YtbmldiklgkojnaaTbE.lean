/- Contract: the sum of a table. -/
import Derived.Test.YtbmldiklgkojnaaTbD
import Derived.Test.YtbmldiklgkojnaaPlanE
namespace Go.Proofs.Ytbmldiklgkojnaa
open Go.RowKit Go.Maps
set_option linter.unusedVariables false

theorem strsV_names (L : Tb) : strsV (L.map nm) = L.map fun p => Value.string p.1 := by
  unfold strsV
  rw [List.map_map]
  refine List.map_congr_left fun p _ => ?_
  show Value.string ⟨p.1.data.toList.toArray⟩ = _
  rw [show (⟨p.1.data.toList.toArray⟩ : ByteArray) = p.1 from ba_ext (by simp)]
theorem tLook {w : World} {q tb : Nat} {L : Tb} (h : TbO w q tb L) {a : ByteArray} (ha : a.size ≤ 1000) : (Instr.lookup 48 (.map (some tb)) (.string a) false).run Try.prog w = .ok (.string (getT L a).1) w := by
  obtain ⟨v, ps, hrun, hv⟩ := h.tight.lookup sKeyed Try.underlying48 (Try.zeroValue9 w) (sElem (a := ByteArray.empty) (by decide)) (sKey ha)
  obtain ⟨c, rfl, hc, _⟩ := plainElem_string_inv Try.underlying9 hv
  have e := congrArg Prod.fst hc
  rw [show ((ByteArray.empty).data.toList : List UInt8) = [] from rfl, at_D L a] at e
  simp only [DataW.lit.injEq, Lit.string.injEq] at e
  rw [hrun, ba_ext e]
theorem bytesT_take (L : Tb) (k : Nat) (h : k < L.length) : bytesT (L.take (k + 1)) = (bytesT (L.take k) ++ txtT L[k].1) ++ txtT L[k].2 := by
  unfold bytesT
  rw [List.take_succ_eq_append_getElem h, List.flatMap_append]
  simp
theorem bytesT_len {L : Tb} (hs : ∀ p ∈ L, p.1.size ≤ 16 ∧ p.2.size ≤ 16) : ∀ k, (bytesT (L.take k)).length ≤ 34 * k := by
  intro k
  induction k with
  | zero => simp [bytesT]
  | succ k ih =>
    by_cases hlt : k < L.length
    · obtain ⟨h1, h2⟩ := hs L[k] (List.getElem_mem hlt)
      rw [bytesT_take L k hlt]
      unfold txtT
      simp only [List.length_append, List.length_cons, size_len]
      omega
    · rw [List.take_of_length_le (by omega)] at ih ⊢
      omega

set_option maxRecDepth 100000 in
set_option maxHeartbeats 8000000 in
theorem tSum_any (q tb : Nat) (L : Tb) (w : World) (h : TbO w q tb L) (hl : L.length ≤ 100) :
    Calls Try.prog 13 #[.pointer (some ⟨q, 0, none⟩)] w fun r w' => r = .returned (.int .u32 (crcT (bytesT L) : Nat)) ∧ Below w.heap.size w w' := by
  have hH := Lib.hid h
  have c0 := cell_at h.ptr 0
  simp only [List.getElem?_toArray, List.getElem?_cons_zero] at c0
  clear h
  go_enter Try.func13, Try.ntmps13
  go_wp2_with fail
  refine (tNames_any q tb L w hH.out (by omega)).mono ?_
  rintro r w1 ⟨v, rfl, hrow, hb1⟩
  have hT := hH.out.grow hb1
  have hlk : ∀ (x : ExtF (fun j => w1.heap.size ≤ j) w1) (a : ByteArray), a.size ≤ 1000 → (Instr.lookup 48 (.map (some tb)) (.string a) false).run Try.prog (upF (fun j => w1.heap.size ≤ j) w1 x) = .ok (.string (getT L a).1) (upF (fun j => w1.heap.size ≤ j) w1 x) := fun x a ha =>
    tLook (hT.grow ((upF_chg _ _ x).below (Nat.le_refl _) (fun k hk => hk))) ha
  have hlq := hT.ltq
  have hlb := hT.ltb
  have hup := Lib.hid hT.up
  have hsm := Lib.hid hT.small
  have hbl := Lib.hid (bytesT_len hT.small)
  clear c0
  have c0 := cell_at hT.ptr 0
  simp only [List.getElem?_toArray, List.getElem?_cons_zero] at c0
  have u0 := upF_cell (F := fun j => w1.heap.size ≤ j) (b := w1) (Nat.not_le.2 hlq) c0
  rw [strsV_names] at hrow
  have hcells : ∃ a cap, v = .slice a L.length cap ∧ L.length ≤ cap ∧ cap ≤ maxLen ∧ (0 < L.length → ∃ g, a = some ⟨g, 0, none⟩ ∧ ∀ k (hk : k < L.length), w1.cell? ⟨g, k, none⟩ = some (.string L[k].1)) := by
    obtain ⟨_, ⟨rfl, h0⟩ | ⟨g, cap, cur, rfl, hb, hg, hn, hc, hs, ht⟩⟩ := hrow
    · exact ⟨none, 0, by rw [h0], by omega, Nat.zero_le _, fun h => by omega⟩
    · refine ⟨some ⟨g, 0, none⟩, cap, rfl, hn, hc, fun _ => ⟨g, rfl, fun k hk => ?_⟩⟩
      have h1 : (cur.toList.take (L.length * 1))[k]? = some (.string L[k].1) := by
        rw [ht, List.getElem?_map, List.getElem?_eq_getElem hk]; rfl
      rw [List.getElem?_take] at h1
      split at h1
      · simp [World.cell?, hg] at h1 ⊢
        simpa using h1
      · cases h1
  obtain ⟨a, cap, rfl, hm, hM, hc⟩ := hcells
  unfold maxLen at hM
  replace hc := Lib.hid hc
  replace hlk := Lib.hid hlk
  replace hT := Lib.hid hT
  replace hb1 := Lib.hid hb1
  clear hrow hH c0
  go_wp2
  go_loopw [3, 11] (fun s i wr => ∃ k : Nat, k ≤ L.length ∧ i = .int .i64 k ∧ ownB wr w1.heap.size s (bytesT (L.take k)) ∧ Below w1.heap.size w1 wr) (fun _ i _ => L.length - (intOf i).toNat)
  case atStart => exact ⟨0, Nat.zero_le _, rfl, World.ownsRow_nil _ _ _ _, Below.refl _ _⟩
  case round =>
    obtain ⟨k, hk, rfl, hown, hbel⟩ := hrel
    by_cases hlt : k < L.length
    · obtain ⟨g, rfl, hce⟩ := hc.out (by omega)
      have hcw := hce k hlt
      have hcl : wr.cell? ⟨g, k, none⟩ = some (.string L[k].1) := by rw [hbel.cell (cell_lt hcw)]; exact hcw
      have hst := bytesT_take L k hlt
      have hlen := hbl.out k
      obtain ⟨hs1, hs2⟩ := hsm.out _ (List.getElem_mem hlt)
      have hlk1 := fun x => hlk.out x L[k].1 (by omega)
      have hget := get_mem hup.out (List.getElem_mem hlt)
      rw [hget] at hlk1
      clear hce hcw hget
      dsimp only at hlk1
      generalize L[k] = p at hcl hst hs1 hs2 hlk1
      obtain ⟨nmk, val⟩ := p
      dsimp only at hcl hst hs1 hs2 hlk1
      generalize bytesT (L.take k) = A at hown hst hlen
      have hlA : (A ++ txtT nmk).length ≤ 90000 := by
        unfold txtT
        simp only [List.length_append, List.length_cons, size_len]
        omega
      replace hst := Lib.hid hst
      replace hown := Lib.hid hown
      replace hbel := Lib.hid hbel
      go_upto_region 7 with (fail)
      refine wp_region_pm (fun j => w1.heap.size ≤ j) w1 (.q 0 (.q 1 (.q 3 (.q 4 (.q 5 (.q 6 (.q 7 (.q 8 (.l 2 (.l 9 (.q 10 .fin))))))))))) (by kernel_rfl) (by kernel_rfl) (.of_below hbel.out) ?_
      intro w2 hheap hb2 _
      have hbel2 := hbel.out.trans (hb2.mono hbel.out.size)
      have hown2 := hown.out.grow hb2
      clear hheap hb2 hbel hown hcl
      repeat (refine pm_q rfl ?_; go_big_quiet_step (fail); refine wpQuiet_nil ?_)
      refine pm_l rfl (by kernel_rfl) ?_
      intro K hK
      go_simp
      refine (nPutText_any _ A w1.heap.size nmk w2 hown2 hbel2.size (by omega) (by omega)).mono ?_
      rintro r w3 ⟨v3, rfl, ho3, hb3⟩
      have hbel3 := hbel2.trans hb3
      refine hK _ _ (.of_below hbel3) ?_
      clear hK K hown2 hb3 hbel2
      refine pm_l rfl (by kernel_rfl) ?_
      intro K hK
      go_simp
      refine (nPutText_any _ (A ++ txtT nmk) w1.heap.size val w3 ho3 hbel3.size hlA (by omega)).mono ?_
      rintro r w4 ⟨v4, rfl, ho4, hb4⟩
      have hbel4 := hbel3.trans hb4
      refine hK _ _ (.of_below hbel4) ?_
      clear hK K ho3 hb4 hbel3
      repeat (refine pm_q rfl ?_; go_big_quiet_step (fail); refine wpQuiet_nil ?_)
      refine pm_fin ?_
      rw [← hst.out] at ho4
      replace ho4 := Lib.hid ho4
      replace hbel4 := Lib.hid hbel4
      clear hlk1 u0
      go_wp2
      go_roundw
      case rel => exact ⟨k + 1, by omega, by go_num, ho4.out, hbel4.out⟩
      case measure => simp [intOf]; omega
    · obtain rfl : k = L.length := by omega
      rw [List.take_length] at hown
      have hrd := Lib.hid hown.rd
      have hB := Lib.hid (hb1.out.trans (hbel.mono hb1.out.size))
      clear hown hbel
      go_wp2_with fail
      refine (cSum_any _ _ _ hrd.out).mono ?_
      rintro r w4 ⟨rfl, rfl⟩
      go_wp2
      go_ret
      exact ⟨rfl, hB.out⟩

set_option maxRecDepth 100000 in
set_option maxHeartbeats 1000000 in
theorem tSum_nil (w : World) : Calls Try.prog 13 #[.pointer none] w fun r w' => r = .returned (.int .u32 0) ∧ w = w' := by
  go_enter Try.func13, Try.ntmps13
  go_wp2
  go_ret
  exact ⟨rfl, rfl⟩
end Go.Proofs.Ytbmldiklgkojnaa
