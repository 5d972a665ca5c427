/- The law's own start: two words. -/
import Derived.Test.YtbmldiklgkojnaaTbE
import Derived.Test.YtbmldiklgkojnaaTbB
import Derived.Deep.DeepCutAuto
namespace Go.Proofs.Ytbmldiklgkojnaa
open Go.RowKit Go.Maps
set_option linter.unusedVariables false

theorem next_yes {L : Tb} {e : Ent} {a b : ByteArray} (hs : e.data.data.toList = a.data.toList ++ 61 :: b.data.toList) (hn : (61 : UInt8) ∉ a.data.toList) (h0 : 0 < a.size) (hm : mayE e = true) : okDo e = true ∧ nextT L e = doT L a b := by
  have hw := wordT_of hs hn h0
  have hk : okDo e = true := by unfold okDo; rw [hw, hm]; rfl
  exact ⟨hk, by unfold nextT; rw [if_pos hk, hw]⟩
theorem next_no {L : Tb} {e : Ent} (h : okDo e = false) : nextT L e = L := by unfold nextT; rw [h]; rfl
theorem do_one (a b : ByteArray) (hb : b.size ≠ 0) : doT [] a b = [(a, b)] := by unfold doT; rw [if_neg hb]; rfl
theorem do_none (a x : ByteArray) : doT [(a, x)] a ByteArray.empty = [] := by
  unfold doT delT
  rw [if_pos (show ByteArray.empty.size = 0 from rfl)]
  simp
theorem get_one (a b : ByteArray) : getT [(a, b)] a = (b, true) := by unfold getT; simp
theorem get_nil (a : ByteArray) : getT [] a = (ByteArray.empty, false) := rfl
theorem cell_chg {F : Nat → Prop} {w w' : World} {b o : Nat} {v : Value} (h : w.cell? ⟨b, o, none⟩ = some v) (hc : Chg F w w') (hF : ¬ F b) : w'.cell? ⟨b, o, none⟩ = some v := by
  rw [← h]; exact World.cell?_of_block (w := w) (a := ⟨b, o, none⟩) (hc.block b (cell_lt h) hF)
theorem cell_bel {w w' : World} {b o : Nat} {v : Value} (h : w.cell? ⟨b, o, none⟩ = some v) (hb : Below w.heap.size w w') : w'.cell? ⟨b, o, none⟩ = some v := by
  rw [hb.cell (cell_lt h)]; exact h
theorem TbO.chg {w w' : World} {q tb : Nat} {L : Tb} {F : Nat → Prop} (h : TbO w q tb L) (hc : Chg F w w') (h1 : ¬ F q) (h2 : ¬ F tb) : TbO w' q tb L := by
  obtain ⟨n, hn⟩ := h.own
  have hlt := h.ltb
  obtain ⟨es, clock, hb, Ft, hs, hD⟩ := hn
  exact ⟨at_chg h.ptr hc h1, ⟨n, es, clock, (hc.block tb hlt h2).trans hb, Ft, hs, hD⟩, h.up, h.small⟩

/-- an entry of these laws -/
abbrev entW (seq : Int) (s : ByteArray) : Ent := ⟨1, 1, seq, 0, 0, 0, s⟩
theorem may_W {seq : Int} {s : ByteArray} (h1 : 1 ≤ seq) (h2 : seq ≤ 1099511627776) (hs : s.size ≤ 16) : mayE (entW seq s) = true := by
  rw [mayE_in]
  unfold inB
  simp [h1, h2]
  omega
abbrev sA : ByteArray := ⟨#[97]⟩
abbrev sBC : ByteArray := ⟨#[98, 61, 99]⟩
theorem b15_e : okDo (entW 1 ⟨#[97, 61, 98, 61, 99]⟩) = true ∧ nextT [] (entW 1 ⟨#[97, 61, 98, 61, 99]⟩) = [(sA, sBC)] := by
  have h := next_yes (L := []) (e := entW 1 ⟨#[97, 61, 98, 61, 99]⟩) (a := sA) (b := sBC) rfl (by decide) (by decide) (may_W (by decide) (by decide) (by decide))
  exact ⟨h.1, h.2.trans (do_one _ _ (by decide))⟩
theorem b15_f : okDo (entW 1 ⟨#[61, 120]⟩) = false := by
  unfold okDo
  have : eqAt (⟨#[61, 120]⟩ : ByteArray) = 0 := by decide
  unfold wordT
  rw [this]; rfl
theorem b15_g : okDo (entW 1 ⟨#[97, 61]⟩) = true ∧ nextT [(sA, sBC)] (entW 1 ⟨#[97, 61]⟩) = [] := by
  have h := next_yes (L := [(sA, sBC)]) (e := entW 1 ⟨#[97, 61]⟩) (a := sA) (b := ByteArray.empty) rfl (by decide) (by decide) (may_W (by decide) (by decide) (by decide))
  exact ⟨h.1, h.2.trans (do_none _ _)⟩
abbrev boxW (seq : Int) (s : ByteArray) : Obj := .cells #[.int .i64 1, .int .i64 1, .int .i64 seq, .int .i64 0, .int .i64 0, .int .i64 0, .string s] 32 (0, 0)
theorem boxW_up {F : Nat → Prop} {w : World} {n : Nat} {seq : Int} {s : ByteArray} (h : w.heap[n]? = some (boxW seq s)) (hF : ¬ F n) : ∀ x : ExtF F w,
    (upF F w x).cell? ⟨n, 0, none⟩ = some (.int .i64 1) ∧ (upF F w x).cell? ⟨n, 1, none⟩ = some (.int .i64 1) ∧ (upF F w x).cell? ⟨n, 2, none⟩ = some (.int .i64 seq) ∧ (upF F w x).cell? ⟨n, 3, none⟩ = some (.int .i64 0) ∧ (upF F w x).cell? ⟨n, 4, none⟩ = some (.int .i64 0) ∧
    (upF F w x).cell? ⟨n, 5, none⟩ = some (.int .i64 0) ∧ (upF F w x).cell? ⟨n, 6, none⟩ = some (.string s) := fun x => by
  have h2 := at_chg h (upF_chg F w x) hF
  exact ⟨cell_at h2 0, cell_at h2 1, cell_at h2 2, cell_at h2 3, cell_at h2 4, cell_at h2 5, cell_at h2 6⟩

set_option maxRecDepth 100000 in
set_option maxHeartbeats 8000000 in
theorem b15_any (m : Int) (w : World) (hm : w.cell? ⟨0, 0, none⟩ = some (.int .i64 m)) : Calls Try.prog 8 #[] w fun r w' => r = .returned (.bool true) ∧ Below w.heap.size w w' := by
  have hB := Lib.hid (Below.refl w.heap.size w)
  have hmH := Lib.hid hm
  have h0 := cell_lt hm
  clear hm
  go_enter Try.func8, Try.ntmps8
  go_wp2_with fail
  refine (tNew_any _).mono ?_
  rintro r w1 ⟨q, tb, rfl, hT, hq, htb, hb1⟩
  obtain ⟨wa, hwa⟩ : ∃ W, W = w1.alloc (.cells #[.int .i64 1, .int .i64 1, .int .i64 1, .int .i64 0, .int .i64 0, .int .i64 0, .string ⟨#[]⟩] 32) := ⟨_, rfl⟩
  have hba : Below w1.heap.size w1 wa := hwa ▸ (Below.refl _ _).alloc (Nat.le_refl _) _
  have hx : wa.heap[w1.heap.size]? = some (boxW 1 ⟨#[]⟩) := hwa ▸ at_new _ _
  have hq1 := hT.ltq
  have htb1 := hT.ltb
  obtain ⟨nE, hnE⟩ : ∃ n, n = w1.heap.size := ⟨_, rfl⟩
  rw [← hnE] at hx
  replace hT := Lib.hid (hT.grow hba)
  replace hB := Lib.hid (hb1.trans (hba.mono hb1.size))
  have hsa := hba.size
  have hEl := at_lt hx
  have hqE : q < nE := by omega
  have htE : tb < nE := by omega
  have hwE : w.heap.size ≤ nE := by omega
  clear hba hb1
  have c0 := cell_at hx 0
  have c1 := cell_at hx 1
  have c2 := cell_at hx 2
  have c3 := cell_at hx 3
  have c4 := cell_at hx 4
  have c5 := cell_at hx 5
  have c6 := cell_at hx 6
  simp only [List.getElem?_toArray, List.getElem?_cons_zero, List.getElem?_cons_succ] at c0 c1 c2 c3 c4 c5 c6
  replace hx := Lib.hid hx
  go_upto_region 5 with (fail)
  rw [← hwa, ← hnE]
  clear hwa
  replace hnE := Lib.hid hnE
  have hd1 : ¬ nE = wa.heap.size := by omega
  have hd2 : ¬ nE = wa.heap.size + 1 := by omega
  have hd3 : nE < wa.heap.size + 1 := by omega
  go_cut [3, 4] (fun s3 s4 wx => ∃ nf ng, s3 = .pointer (some ⟨nf, 0, none⟩) ∧ s4 = .pointer (some ⟨ng, 0, none⟩) ∧ nf ≠ ng ∧ wa.heap.size ≤ nf ∧ wa.heap.size ≤ ng ∧ wx.heap[nf]? = some (boxW 1 ⟨#[]⟩) ∧ wx.heap[ng]? = some (boxW 1 ⟨#[]⟩) ∧ Below wa.heap.size wa wx)
  case first =>
    have k1 : ((wa.alloc (boxW 1 ⟨#[]⟩)).alloc (boxW 1 ⟨#[]⟩)).drew.heap[wa.heap.size]? = some (boxW 1 ⟨#[]⟩) := at_old _ (at_new _ _)
    have k2 : ((wa.alloc (boxW 1 ⟨#[]⟩)).alloc (boxW 1 ⟨#[]⟩)).drew.heap[wa.heap.size + 1]? = some (boxW 1 ⟨#[]⟩) := by
      have := at_new (wa.alloc (boxW 1 ⟨#[]⟩)) (boxW 1 ⟨#[]⟩)
      rw [show (wa.alloc (boxW 1 ⟨#[]⟩)).heap.size = wa.heap.size + 1 by simp] at this
      exact this
    have k3 : Below wa.heap.size wa ((wa.alloc (boxW 1 ⟨#[]⟩)).alloc (boxW 1 ⟨#[]⟩)).drew := (((Below.refl _ wa).alloc (Nat.le_refl _) _).alloc (by simp) _).drew
    replace k1 := Lib.hid k1
    replace k2 := Lib.hid k2
    replace k3 := Lib.hid k3
    go_region
    · go_wp2_with fail
      go_meet
      exact ⟨_, _, rfl, rfl, by omega, by omega, by omega, k1.out, k2.out, k3.out⟩
    · go_wp2_with fail
      go_meet
      exact ⟨_, _, rfl, rfl, by omega, by omega, by omega, k2.out, k1.out, k3.out⟩
  case rest =>
    rename World => wx
    obtain ⟨nf, ng, rfl, rfl, hfg, hf, hg, hxf, hxg, hbx⟩ := hcut
    clear c0 c1 c2 c3 c4 c5 c6 hd1 hd2 hd3
    have hxe := at_below hx.out hbx
    replace hT := Lib.hid (hT.out.grow hbx)
    replace hB := Lib.hid (hB.out.trans (hbx.mono hB.out.size))
    have hBs := hB.out.size
    have n1 : ¬ nE = nf := by omega
    have n2 : ¬ nE = ng := by omega
    have n3 : ¬ nf = nE := by omega
    have n4 : ¬ ng = nE := by omega
    have n5 : ¬ nf = ng := hfg
    have n6 : ¬ ng = nf := fun e => hfg e.symm
    have f1 := free_at hxe 6
    have f2 := free_at hxf 6
    have f3 := free_at hxg 6
    have c1 := cell_at hxe 6
    have c2 := cell_at hxf 6
    have c3 := cell_at hxg 6
    simp only [List.getElem?_toArray, List.getElem?_cons_zero, List.getElem?_cons_succ] at c1 c2 c3
    obtain ⟨wB, hwB⟩ : ∃ W, W = ((wx.setCell ⟨nE, 6, none⟩ (.string ⟨#[97, 61, 98, 61, 99]⟩)).setCell ⟨nf, 6, none⟩ (.string ⟨#[61, 120]⟩)).setCell ⟨ng, 6, none⟩ (.string ⟨#[97, 61]⟩) := ⟨_, rfl⟩
    have he1 : (wx.setCell ⟨nE, 6, none⟩ (.string ⟨#[97, 61, 98, 61, 99]⟩)).heap[nE]? = some (boxW 1 ⟨#[97, 61, 98, 61, 99]⟩) := set_at hxe
    have heB : wB.heap[nE]? = some (boxW 1 ⟨#[97, 61, 98, 61, 99]⟩) := hwB ▸ set_far (set_far he1 n1) n2
    have hf1 : ((wx.setCell ⟨nE, 6, none⟩ (.string ⟨#[97, 61, 98, 61, 99]⟩)).setCell ⟨nf, 6, none⟩ (.string ⟨#[61, 120]⟩)).heap[nf]? = some (boxW 1 ⟨#[61, 120]⟩) := set_at (set_far hxf n3)
    have hfB : wB.heap[nf]? = some (boxW 1 ⟨#[61, 120]⟩) := hwB ▸ set_far hf1 n5
    have hgB : wB.heap[ng]? = some (boxW 1 ⟨#[97, 61]⟩) := hwB ▸ set_at (set_far (set_far hxg n4) n6)
    have hcB : Chg (fun j => j = nE ∨ j = nf ∨ j = ng) wx wB := hwB ▸ chg_set (chg_set (chg_set (Chg.refl _ _) (.inl rfl)) (.inr (.inl rfl))) (.inr (.inr rfl))
    have hTB := Lib.hid (hT.out.chg hcB (by omega) (by omega))
    have hBB := Lib.hid (hB.out.trans (hcB.below hBs (fun k hk => by omega)))
    have hmB := Lib.hid (cell_bel hmH.out hBB.out)
    have hsB := hcB.size
    clear hxe hxf hxg he1 hf1 hcB hx hbx hT hB
    go_upto_region 7 with (fail)
    rw [← hwB]
    clear hwB f1 f2 f3 c1 c2 c3
    have hqB := hTB.out.ltq
    have heBl := at_lt heB
    have hfBl := at_lt hfB
    have hF1 : ¬ (nE = tb ∨ wB.heap.size ≤ nE) := by omega
    have hF2 : ¬ (nf = tb ∨ wB.heap.size ≤ nf) := by omega
    have hue := boxW_up (F := fun j => j = tb ∨ wB.heap.size ≤ j) heB hF1
    have huf := boxW_up (F := fun j => j = tb ∨ wB.heap.size ≤ j) hfB hF2
    have e0 := fun x => (hue x).1
    have e1 := fun x => (hue x).2.1
    have e2 := fun x => (hue x).2.2.1
    have e3 := fun x => (hue x).2.2.2.1
    have e4 := fun x => (hue x).2.2.2.2.1
    have e5 := fun x => (hue x).2.2.2.2.2.1
    have e6 := fun x => (hue x).2.2.2.2.2.2
    have g0 := fun x => (huf x).1
    have g1 := fun x => (huf x).2.1
    have g2 := fun x => (huf x).2.2.1
    have g3 := fun x => (huf x).2.2.2.1
    have g4 := fun x => (huf x).2.2.2.2.1
    have g5 := fun x => (huf x).2.2.2.2.2.1
    have g6 := fun x => (huf x).2.2.2.2.2.2
    clear hue huf
    refine wp_region_pm (fun j => j = tb ∨ wB.heap.size ≤ j) wB (.q 0 (.q 1 (.q 3 (.q 4 (.l 2 (.l 5 (.q 6 (.q 7 .fin)))))))) (by kernel_rfl) (by kernel_rfl) (Chg.refl _ _) ?_
    intro y1 hheap hy1 _
    repeat (refine pm_q rfl ?_; go_big_quiet_step (fail); refine wpQuiet_nil ?_)
    clear e0 e1 e2 e3 e4 e5 e6 g0 g1 g2 g3 g4 g5 g6 hheap
    have hT1 := hTB.out.grow hy1
    have hm1 := cell_bel hmB.out hy1
    have hc1 : Chg (fun j => j = tb ∨ wB.heap.size ≤ j) wB y1 := .of_below hy1
    refine pm_l rfl (by kernel_rfl) ?_
    intro K hK
    go_simp
    refine (tDo_any q tb [] (entW 1 ⟨#[97, 61, 98, 61, 99]⟩) m y1 hT1 (by simp) hm1 (by decide)).mono ?_
    rintro r y2 ⟨rfl, hT2, hc2⟩
    rw [b15_e.1]
    rw [b15_e.2] at hT2
    have hm2 := cell_chg hm1 hc2 (show ¬ (0 = tb) by omega)
    have hc2' := hc1.more hc2 (fun i hi => .inl (.inl hi))
    refine hK _ _ hc2' ?_
    clear hK K hc1 hc2 hm1 hT1
    refine pm_l rfl (by kernel_rfl) ?_
    intro K hK
    go_simp
    refine (tDo_any q tb [(sA, sBC)] (entW 1 ⟨#[61, 120]⟩) m y2 hT2 (by simp) hm2 (by decide)).mono ?_
    rintro r y3 ⟨rfl, hT3, hc3⟩
    rw [b15_f]
    rw [next_no b15_f] at hT3
    have hm3 := cell_chg hm2 hc3 (show ¬ (0 = tb) by omega)
    have hc3' := hc2'.more hc3 (fun i hi => .inl (.inl hi))
    refine hK _ _ hc3' ?_
    clear hK K hc2' hc3 hm2 hT2
    repeat (refine pm_q rfl ?_; go_big_quiet_step (fail); refine wpQuiet_nil ?_)
    refine pm_fin ?_
    have hgB3 := at_chg hgB hc3' (by have := at_lt hgB; omega)
    have hB3 := Lib.hid (hBB.out.trans (hc3'.below hBB.out.size (fun k hk => by have := hBB.out.size; omega)))
    clear hc3' hTB hBB hmB heB hfB hgB hy1
    replace hT3 := Lib.hid hT3
    replace hm3 := Lib.hid hm3
    have c0 := cell_at hgB3 0
    have c1 := cell_at hgB3 1
    have c2 := cell_at hgB3 2
    have c3 := cell_at hgB3 3
    have c4 := cell_at hgB3 4
    have c5 := cell_at hgB3 5
    have c6 := cell_at hgB3 6
    simp only [List.getElem?_toArray, List.getElem?_cons_zero, List.getElem?_cons_succ] at c0 c1 c2 c3 c4 c5 c6
    go_wp2_with fail
    refine (tGet_any q tb _ sA _ hT3.out (by decide)).mono ?_
    rintro r y4 ⟨rfl, rfl⟩
    rw [get_one]
    go_wp2_with fail
    refine (tNames_any q tb _ _ hT3.out (by simp)).mono ?_
    rintro r y5 ⟨v5, rfl, hrow5, hb5⟩
    obtain ⟨a5, cap5, rfl⟩ : ∃ a cap, v5 = .slice a 1 cap := by
      obtain ⟨_, ⟨rfl, h0⟩ | ⟨g, cap, cur, rfl, _⟩⟩ := hrow5
      · simp at h0
      · exact ⟨_, cap, rfl⟩
    have hgB5 := at_below hgB3 hb5
    have hT5 := Lib.hid (hT3.out.grow hb5)
    have hm5 := cell_bel hm3.out hb5
    have hB5 := Lib.hid (hB3.out.trans (hb5.mono hB3.out.size))
    clear hrow5 hb5 hT3 hm3 hB3 c0 c1 c2 c3 c4 c5 c6 hgB3
    have c0 := cell_at hgB5 0
    have c1 := cell_at hgB5 1
    have c2 := cell_at hgB5 2
    have c3 := cell_at hgB5 3
    have c4 := cell_at hgB5 4
    have c5 := cell_at hgB5 5
    have c6 := cell_at hgB5 6
    simp only [List.getElem?_toArray, List.getElem?_cons_zero, List.getElem?_cons_succ] at c0 c1 c2 c3 c4 c5 c6
    go_wp2_with fail
    refine (tDo_any q tb _ (entW 1 ⟨#[97, 61]⟩) m _ hT5.out (by simp) hm5 (by decide)).mono ?_
    rintro r y6 ⟨rfl, hT6, hc6⟩
    rw [b15_g.1]
    rw [b15_g.2] at hT6
    have hB6 := Lib.hid (hB5.out.trans (hc6.below hB5.out.size (fun k hk => by have := hB5.out.size; omega)))
    replace hT6 := Lib.hid hT6
    clear hc6 hT5 hm5 hB5 c0 c1 c2 c3 c4 c5 c6 hgB5
    go_wp2_with fail
    refine (tGet_any q tb _ sA _ hT6.out (by decide)).mono ?_
    rintro r y7 ⟨rfl, rfl⟩
    rw [get_nil]
    go_wp2_with fail
    refine (tSum_any q tb _ _ hT6.out (by simp)).mono ?_
    rintro r y8 ⟨rfl, hb8⟩
    have hB8 := Lib.hid (hB6.out.trans (hb8.mono hB6.out.size))
    rw [show crcT (bytesT []) = 0 from crcT_nil]
    clear hb8 hT6 hB6
    go_wp2
    go_ret
    exact ⟨rfl, hB8.out⟩
end Go.Proofs.Ytbmldiklgkojnaa
