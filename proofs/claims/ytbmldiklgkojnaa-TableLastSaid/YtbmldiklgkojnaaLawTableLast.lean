/- A name stands for what was said of it last. -/
import Derived.Test.YtbmldiklgkojnaaTbK
import Derived.Laws.BytesArg
namespace Go.Proofs.Ytbmldiklgkojnaa.lawTableLast
open Go.ChangeShapes Go.WideShapes Go.ChangeAt Go.RowKit
set_option linter.unusedVariables false

abbrev sK : ByteArray := ⟨#[107]⟩
abbrev sP : ByteArray := ⟨#[112]⟩
def stT (v c : ByteArray) : Tb := if v.size = 0 then [(sP, c)] else [(sK, v), (sP, c)]
def stL (k : Nat) (v c : ByteArray) : Tb := if k = 0 then [] else stT v c
theorem doK {L : Tb} {c : ByteArray} (hL : L = [] ∨ ∃ v', L = stT v' c) (v : ByteArray) : doT L sK v = if v.size = 0 then (if L = [] then [] else [(sP, c)]) else (if L = [] then [(sK, v)] else [(sK, v), (sP, c)]) := by
  unfold doT delT
  rcases hL with rfl | ⟨v', rfl⟩
  · split <;> rfl
  · have h1 : (stT v' c).filter (fun p => !(nm p == sK.data.toList)) = [(sP, c)] := by
      unfold stT; split <;> rfl
    rw [h1]
    have h2 : stT v' c ≠ [] := by unfold stT; split <;> simp
    rw [if_neg h2, if_neg h2]
    split <;> rfl
theorem step_st {L : Tb} {c : ByteArray} (hL : L = [] ∨ ∃ v', L = stT v' c) (v : ByteArray) (hc : c.size ≠ 0) : doT (doT L sK v) sP c = stT v c := by
  rw [doK hL v]
  unfold doT
  rw [if_neg hc]
  unfold stT delT
  by_cases hv : v.size = 0
  · rw [if_pos hv, if_pos hv]
    split <;> rfl
  · rw [if_neg hv, if_neg hv]
    split <;> rfl
theorem get_K (v c : ByteArray) : getT (stT v c) sK = (v, decide (v.size ≠ 0)) := by
  unfold stT
  by_cases hv : v.size = 0
  · rw [if_pos hv]
    have : v = ByteArray.empty := ba_ext (by rw [List.length_eq_zero_iff.1 ((size_len v).trans hv)]; rfl)
    subst this
    rfl
  · rw [if_neg hv, decide_eq_true hv]; rfl
theorem get_P (v c : ByteArray) : getT (stT v c) sP = (c, true) := by
  unfold stT
  split <;> rfl
theorem len_st (v c : ByteArray) : (stT v c).length = if v.size = 0 then 1 else 2 := by
  unfold stT; split <;> rfl
def chB (n : Nat) : ByteArray := ⟨#[UInt8.ofNat (97 + n % 20)]⟩
def vS (b : UInt8) : ByteArray := if b.toNat % 3 = 0 then ByteArray.empty else chB b.toNat

theorem vS_size (b : UInt8) : (vS b).size ≤ 1 := by
  unfold vS; split
  · exact Nat.zero_le _
  · exact Nat.le_refl 1
theorem app_list (a b : ByteArray) : (a ++ b).data.toList = a.data.toList ++ b.data.toList := by
  rw [ByteArray.data_append, Array.toList_append]
theorem conv1 (W : World) (z : Int) : (convert 45 9 (.slice (some ⟨W.heap.size, 0, none⟩) 1 1)).run Try.prog (W.alloc (.cells #[.int .u8 z] 5)) = .ok (.string ⟨#[UInt8.ofNat z.toNat]⟩) (W.alloc (.cells #[.int .u8 z] 5)) :=
  run_convert_bytes_arg _ 45 5 Try.underlying45 Try.underlying5 W.heap.size 0 1 1 [z] rfl (fun i hi => by
    match i, hi with
    | 0, _ => exact cell_at (at_new W _) 0) 9 Try.underlying9
theorem conv3 (W : World) (x y z : Int) : (convert 45 9 (.slice (some ⟨W.heap.size, 0, none⟩) 3 3)).run Try.prog (W.alloc (.cells #[.int .u8 x, .int .u8 y, .int .u8 z] 5)) = .ok (.string ⟨#[UInt8.ofNat x.toNat, UInt8.ofNat y.toNat, UInt8.ofNat z.toNat]⟩) (W.alloc (.cells #[.int .u8 x, .int .u8 y, .int .u8 z] 5)) :=
  run_convert_bytes_arg _ 45 5 Try.underlying45 Try.underlying5 W.heap.size 0 3 3 [x, y, z] rfl (fun i hi => by
    match i, hi with
    | 0, _ => exact cell_at (at_new W _) 0
    | 1, _ => exact cell_at (at_new W _) 1
    | 2, _ => exact cell_at (at_new W _) 2) 9 Try.underlying9
theorem convB (n : Nat) (z : Int) (h : z = 97 + (n : Int) % 20) (W : World) : (convert 45 9 (.slice (some ⟨W.heap.size, 0, none⟩) 1 1)).run Try.prog (W.alloc (.cells #[.int .u8 z] 5)) = .ok (.string (chB n)) (W.alloc (.cells #[.int .u8 z] 5)) := by
  rw [conv1, show z.toNat = 97 + n % 20 by omega]; rfl
theorem convP (n : Nat) (z : Int) (h : z = 97 + (n : Int) % 20) (W : World) : (convert 45 9 (.slice (some ⟨W.heap.size, 0, none⟩) 3 3)).run Try.prog (W.alloc (.cells #[.int .u8 112, .int .u8 61, .int .u8 z] 5)) = .ok (.string ⟨#[112, 61, UInt8.ofNat (97 + n % 20)]⟩) (W.alloc (.cells #[.int .u8 112, .int .u8 61, .int .u8 z] 5)) := by
  rw [conv3, show z.toNat = 97 + n % 20 by omega]; rfl

set_option maxRecDepth 100000 in
set_option maxHeartbeats 8000000 in
theorem walk (m : Int) (v : Value) (l : List UInt8) (o : Int) (w : World) (hm : w.cell? ⟨0, 0, none⟩ = some (.int .i64 m)) (hr : rdB w v l) (_ : True) (ho : 0 ≤ o ∧ o ≤ 255) :
    Calls Try.prog 6 #[v, .int .u8 o] w fun e w' => e = .returned (.bool true) ∧ Below w.heap.size w w' := by
  have hmH := Lib.hid hm
  have h0 := cell_lt hm
  have hrH := Lib.hid hr
  obtain ⟨ho1, ho2⟩ := ho
  obtain ⟨a, cap, rfl, hcp, hM, ha⟩ := hr
  unfold maxLen at hM
  replace ha := Lib.hid ha
  clear hm
  go_enter Try.func6, Try.ntmps6
  go_wp2_with fail
  refine (b15_any m _ hmH.out).mono ?_
  rintro r w1 ⟨rfl, hb1⟩
  have hB := Lib.hid hb1
  have hm1 := cell_bel hmH.out hb1
  clear hb1
  go_wp2_with fail
  refine (tNew_any _).mono ?_
  rintro r w2 ⟨q, tb, rfl, hT, hq, htb, hb2⟩
  have hm2 := Lib.hid (cell_bel hm1 hb2)
  have hsz := hB.out.size
  replace hB := Lib.hid (hB.out.trans (hb2.mono hsz))
  have hqw : w.heap.size ≤ q := by omega
  have htw : w.heap.size ≤ tb := by omega
  clear hb2 hm1
  obtain ⟨c, hc⟩ : ∃ c, chB o.toNat = c := ⟨_, rfl⟩
  have hcz : c.size ≠ 0 := by rw [← hc]; exact Nat.one_ne_zero
  have hc1 : c.size ≤ 1 := by rw [← hc]; exact Nat.le_refl 1
  obtain ⟨ub, hub⟩ : ∃ u, UInt8.ofNat (97 + o.toNat % 20) = u := ⟨_, rfl⟩
  have hcu : c = ⟨#[ub]⟩ := by rw [← hc, ← hub]; rfl
  replace hc := Lib.hid hc
  replace hub := Lib.hid hub
  replace hcu := Lib.hid hcu
  replace hT := Lib.hid hT
  go_wp2
  go_loopw [7, 8, 9] (fun s b i wr => ∃ (k : Nat) (x : ByteArray), k ≤ l.length ∧ k ≤ 30 ∧ i = .int .i64 k ∧ s = .string x ∧ b = .bool (decide (x.size ≠ 0)) ∧ x.size ≤ 1 ∧ (k = 0 → x.size = 0) ∧ TbO wr q tb (stL k x c) ∧ Below w.heap.size w wr) (fun _ _ i _ => 30 - (intOf i).toNat)
  case atStart => exact ⟨0, ByteArray.empty, Nat.zero_le _, Nat.zero_le _, rfl, rfl, rfl, Nat.zero_le _, fun _ => rfl, hT.out, hB.out⟩
  case round =>
    obtain ⟨k, x, hk, hk30, rfl, rfl, rfl, hx1, hx0, hT, hbel⟩ := hrel
    have hmr := cell_bel hmH.out hbel
    replace hT := Lib.hid hT
    replace hbel := Lib.hid hbel
    by_cases hlt : k < l.length
    · by_cases h30 : k < 30
      · obtain ⟨g, off, rfl, hce⟩ := ha.out (by omega)
        have hcl := cell_bel (hce k hlt) hbel.out
        clear hce
        generalize l[k] = b at hcl
        have hb8 := b.toNat_lt
        go_upto_if 35 with (fail)
        go_cut [10] (fun s wx => s = .string (vS b) ∧ Below wr.heap.size wr wx)
        case first =>
          by_cases h3 : b.toNat % 3 = 0
          · have d1 : (((b.toNat : Int) % 3) == 0) = true := by simp; omega
            have hv : vS b = ByteArray.empty := by unfold vS; rw [if_pos h3]
            replace hv := Lib.hid hv
            go_wp2_with fail
            go_meet
            exact ⟨by rw [hv.out]; rfl, Below.refl _ _⟩
          · have d1 : (((b.toNat : Int) % 3) == 0) = false := by simp; omega
            have hv : vS b = chB b.toNat := by unfold vS; rw [if_neg h3]
            replace hv := Lib.hid hv
            have hcv := convB b.toNat _ rfl
            go_wp2_with fail
            go_meet
            exact ⟨by rw [hv.out], (Below.refl _ _).alloc (Nat.le_refl _) _⟩
        case rest =>
          rename World => wx
          obtain ⟨rfl, hbx⟩ := hcut
          have hmx := cell_bel hmr hbx
          replace hT := Lib.hid (hT.out.grow hbx)
          replace hbel := Lib.hid (hbel.out.trans (hbx.mono hbel.out.size))
          clear hbx hcl hmr
          have hv1 := vS_size b
          generalize vS b = y at hv1
          have hLs : stL k x c = [] ∨ ∃ v', stL k x c = stT v' c := by
            unfold stL
            split
            · exact .inl rfl
            · exact .inr ⟨x, rfl⟩
          have hy := next_yes (L := stL k x c) (e := entW ((k : Int) + 1) (⟨#[107, 61]⟩ ++ y)) (a := sK) (b := y) (by dsimp only; rw [app_list]; rfl) (by decide) (by decide) (may_W (by omega) (by omega) (by rw [ByteArray.size_append]; show 2 + y.size ≤ 16; omega))
          have hp := next_yes (L := doT (stL k x c) sK y) (e := entW ((k : Int) + 1) ⟨#[112, 61, ub]⟩) (a := sP) (b := c) (by rw [hcu.out]; rfl) (by decide) (by decide) (may_W (by omega) (by omega) (by show 3 ≤ 16; omega))
          have hst := step_st hLs y hcz
          have hll : (stL k x c).length ≤ 2 := by
            unfold stL
            split
            · exact Nat.zero_le _
            · rw [len_st]; split <;> omega
          have hl2 : (doT (stL k x c) sK y).length ≤ 3 := by have := do_len (stL k x c) sK y; omega
          obtain ⟨hy1, hy2⟩ := hy
          obtain ⟨hp1, hp2⟩ := hp
          rw [hst] at hp2
          replace hy1 := Lib.hid hy1
          replace hy2 := Lib.hid hy2
          replace hp1 := Lib.hid hp1
          replace hp2 := Lib.hid hp2
          have hk' : (k : Int) + 1 ≤ 31 := by omega
          clear hst hLs
          generalize stL k x c = L at hT hy2 hp2 hll hl2
          have hyz : ((⟨#[107, 61]⟩ ++ y : ByteArray)).size < 4294967281 := by rw [ByteArray.size_append]; show 2 + y.size < _; omega
          have hD := tDo_any q tb L (entW ((k : Int) + 1) (⟨#[107, 61]⟩ ++ y)) m wx hT.out (by omega) hmx hyz
          rw [hy1.out, hy2.out] at hD
          simp only [Ent.val] at hD
          replace hD := Lib.hid hD
          go_wp2_with fail
          refine hD.out.mono ?_
          rintro r w4 ⟨rfl, hT4, hc4⟩
          clear hD
          have hm4 := cell_chg hmx hc4 (show ¬ (0 = tb) by omega)
          replace hbel := Lib.hid (hbel.out.trans (hc4.below hbel.out.size (fun k hk => by omega)))
          replace hT4 := Lib.hid hT4
          clear hc4 hmx hT hy1 hy2
          have hcv := convP o.toNat (97 + o % 20) (by omega)
          rw [hub.out] at hcv
          obtain ⟨w5, hw5⟩ : ∃ W, W = w4.alloc (.cells #[.int .u8 112, .int .u8 61, .int .u8 (97 + o % 20)] 5) := ⟨_, rfl⟩
          have hb5 : Below w4.heap.size w4 w5 := hw5 ▸ (Below.refl _ _).alloc (Nat.le_refl _) _
          have hm5 := cell_bel hm4 hb5
          have hT5 := hT4.out.grow hb5
          replace hbel := Lib.hid (hbel.out.trans (hb5.mono hbel.out.size))
          have hD2 := tDo_any q tb (doT L sK y) (entW ((k : Int) + 1) ⟨#[112, 61, ub]⟩) m w5 hT5 (by omega) hm5 (by show 3 < 4294967281; omega)
          rw [hp1.out, hp2.out] at hD2
          simp only [Ent.val] at hD2
          replace hD2 := Lib.hid hD2
          clear hb5 hm4 hT4 hT5 hp1 hp2
          go_wp2_with fail
          rw [← hw5]
          refine hD2.out.mono ?_
          rintro r w6 ⟨rfl, hT6, hc6⟩
          clear hD2 hw5 hcv
          have hm6 := cell_chg hm5 hc6 (show ¬ (0 = tb) by omega)
          replace hbel := Lib.hid (hbel.out.trans (hc6.below hbel.out.size (fun k hk => by omega)))
          replace hT6 := Lib.hid hT6
          clear hc6 hm5
          have hgK := get_K y c
          have hd2 : y.toList.isEmpty = decide (y.size = 0) := by
            by_cases h : y.size = 0
            · have : y = ByteArray.empty := ba_ext (by rw [List.length_eq_zero_iff.1 ((size_len y).trans h)]; rfl)
              subst this
              rw [sNil]; rfl
            · rw [sNe (fun e => h (by rw [e]; rfl)), decide_eq_false h]
          have hG := tGet_any q tb (stT y c) sK w6 hT6.out (by decide)
          rw [hgK] at hG
          replace hG := Lib.hid hG
          by_cases hyz : y.size = 0
          · rw [decide_eq_true hyz] at hd2
            rw [decide_eq_false (fun h => h hyz)] at hG
            have hdd : decide (y.size ≠ 0) = false := decide_eq_false (fun h => h hyz)
            go_wp2_with fail
            refine hG.out.mono ?_
            rintro r w7 ⟨rfl, rfl⟩
            go_wp2
            go_roundw
            case rel => exact ⟨k + 1, y, by omega, by omega, by go_num, rfl, by rw [hdd], hv1, fun h => absurd h (by omega), hT6.out, hbel.out⟩
            case measure => simp [intOf]; omega
          · rw [decide_eq_false hyz] at hd2
            rw [decide_eq_true hyz] at hG
            have hdd : decide (y.size ≠ 0) = true := decide_eq_true hyz
            go_wp2_with fail
            refine hG.out.mono ?_
            rintro r w7 ⟨rfl, rfl⟩
            go_wp2
            go_roundw
            case rel => exact ⟨k + 1, y, by omega, by omega, by go_num, rfl, by rw [hdd], hv1, fun h => absurd h (by omega), hT6.out, hbel.out⟩
            case measure => simp [intOf]; omega
      · obtain rfl : k = 30 := by omega
        rw [show stL 30 x c = stT x c from rfl] at hT
        clear hx0 hmr
        have hlen : (l.length : Int) > 0 := by omega
        by_cases hz : x.size = 0
        · have hdd : decide (x.size ≠ 0) = false := decide_eq_false (fun h => h hz)
          have hll : (stT x c).length = 1 := by rw [len_st, if_pos hz]
          rw [hdd]
          have hcv := convB o.toNat (97 + o % 20) (by omega)
          rw [hc.out] at hcv
          have hG := tGet_any q tb (stT x c) sP wr hT.out (by decide)
          rw [get_P] at hG
          replace hG := Lib.hid hG
          have hN := fun W (hW : TbO W q tb (stT x c)) => tNames_any q tb (stT x c) W hW (by omega)
          rw [hll] at hN
          generalize stT x c = L at hT hN hll
          replace hN := Lib.hid hN
          go_wp2_with fail
          refine hG.out.mono ?_
          rintro r w7 ⟨rfl, rfl⟩
          obtain ⟨w8, hw8⟩ : ∃ W, W = wr.alloc (.cells #[.int .u8 (97 + o % 20)] 5) := ⟨_, rfl⟩
          have hb8 : Below wr.heap.size wr w8 := hw8 ▸ (Below.refl _ _).alloc (Nat.le_refl _) _
          replace hT := Lib.hid (hT.out.grow hb8)
          replace hbel := Lib.hid (hbel.out.trans (hb8.mono hbel.out.size))
          clear hb8 hG
          go_wp2_with fail
          rw [← hw8]
          refine (hN.out _ hT.out).mono ?_
          rintro r w9 ⟨v9, rfl, hrow, hb9⟩
          clear hcv hw8
          obtain ⟨a9, cap9, rfl⟩ : ∃ a cap, v9 = .slice a 1 cap := by
            obtain ⟨_, ⟨rfl, h0⟩ | ⟨g, cap, cur, rfl, _⟩⟩ := hrow
            · simp at h0
            · exact ⟨_, cap, rfl⟩
          replace hbel := Lib.hid (hbel.out.trans (hb9.mono hbel.out.size))
          clear hb9 hrow
          go_wp2
          go_ret
          exact ⟨rfl, hbel.out⟩
        · have hdd : decide (x.size ≠ 0) = true := decide_eq_true hz
          have hll : (stT x c).length = 2 := by rw [len_st, if_neg hz]
          rw [hdd]
          have hcv := convB o.toNat (97 + o % 20) (by omega)
          rw [hc.out] at hcv
          have hG := tGet_any q tb (stT x c) sP wr hT.out (by decide)
          rw [get_P] at hG
          replace hG := Lib.hid hG
          have hN := fun W (hW : TbO W q tb (stT x c)) => tNames_any q tb (stT x c) W hW (by omega)
          rw [hll] at hN
          generalize stT x c = L at hT hN hll
          replace hN := Lib.hid hN
          go_wp2_with fail
          refine hG.out.mono ?_
          rintro r w7 ⟨rfl, rfl⟩
          obtain ⟨w8, hw8⟩ : ∃ W, W = wr.alloc (.cells #[.int .u8 (97 + o % 20)] 5) := ⟨_, rfl⟩
          have hb8 : Below wr.heap.size wr w8 := hw8 ▸ (Below.refl _ _).alloc (Nat.le_refl _) _
          replace hT := Lib.hid (hT.out.grow hb8)
          replace hbel := Lib.hid (hbel.out.trans (hb8.mono hbel.out.size))
          clear hb8 hG
          go_wp2_with fail
          rw [← hw8]
          refine (hN.out _ hT.out).mono ?_
          rintro r w9 ⟨v9, rfl, hrow, hb9⟩
          clear hcv hw8
          obtain ⟨a9, cap9, rfl⟩ : ∃ a cap, v9 = .slice a 2 cap := by
            obtain ⟨_, ⟨rfl, h0⟩ | ⟨g, cap, cur, rfl, _⟩⟩ := hrow
            · simp at h0
            · exact ⟨_, cap, rfl⟩
          replace hbel := Lib.hid (hbel.out.trans (hb9.mono hbel.out.size))
          clear hb9 hrow
          go_wp2
          go_ret
          exact ⟨rfl, hbel.out⟩
    · obtain rfl : k = l.length := by omega
      by_cases hl0 : l.length = 0
      · have hz := hx0 hl0
        have hdd : decide (x.size ≠ 0) = false := decide_eq_false (fun h => h hz)
        rw [hl0, show stL 0 x c = [] from rfl] at hT
        rw [hdd, hl0]
        clear hx0 hmr
        go_wp2_with fail
        refine (tGet_any q tb [] sP _ hT.out (by decide)).mono ?_
        rintro r w7 ⟨rfl, rfl⟩
        rw [get_nil]
        go_wp2_with fail
        refine (tNames_any q tb [] _ hT.out (by simp)).mono ?_
        rintro r w9 ⟨v9, rfl, hrow, hb9⟩
        obtain ⟨a9, cap9, rfl⟩ : ∃ a cap, v9 = .slice a 0 cap := by
          obtain ⟨_, ⟨rfl, h0⟩ | ⟨g, cap, cur, rfl, _⟩⟩ := hrow
          · exact ⟨_, 0, rfl⟩
          · exact ⟨_, cap, rfl⟩
        replace hbel := Lib.hid (hbel.out.trans (hb9.mono hbel.out.size))
        clear hb9 hrow
        go_wp2
        go_ret
        exact ⟨rfl, hbel.out⟩
      · rw [show stL l.length x c = stT x c from if_neg hl0] at hT
        clear hx0 hmr
        have hlen : (l.length : Int) > 0 := by omega
        by_cases hz : x.size = 0
        · have hdd : decide (x.size ≠ 0) = false := decide_eq_false (fun h => h hz)
          have hll : (stT x c).length = 1 := by rw [len_st, if_pos hz]
          rw [hdd]
          have hcv := convB o.toNat (97 + o % 20) (by omega)
          rw [hc.out] at hcv
          have hG := tGet_any q tb (stT x c) sP wr hT.out (by decide)
          rw [get_P] at hG
          replace hG := Lib.hid hG
          have hN := fun W (hW : TbO W q tb (stT x c)) => tNames_any q tb (stT x c) W hW (by omega)
          rw [hll] at hN
          generalize stT x c = L at hT hN hll
          replace hN := Lib.hid hN
          go_wp2_with fail
          refine hG.out.mono ?_
          rintro r w7 ⟨rfl, rfl⟩
          obtain ⟨w8, hw8⟩ : ∃ W, W = wr.alloc (.cells #[.int .u8 (97 + o % 20)] 5) := ⟨_, rfl⟩
          have hb8 : Below wr.heap.size wr w8 := hw8 ▸ (Below.refl _ _).alloc (Nat.le_refl _) _
          replace hT := Lib.hid (hT.out.grow hb8)
          replace hbel := Lib.hid (hbel.out.trans (hb8.mono hbel.out.size))
          clear hb8 hG
          go_wp2_with fail
          rw [← hw8]
          refine (hN.out _ hT.out).mono ?_
          rintro r w9 ⟨v9, rfl, hrow, hb9⟩
          clear hcv hw8
          obtain ⟨a9, cap9, rfl⟩ : ∃ a cap, v9 = .slice a 1 cap := by
            obtain ⟨_, ⟨rfl, h0⟩ | ⟨g, cap, cur, rfl, _⟩⟩ := hrow
            · simp at h0
            · exact ⟨_, cap, rfl⟩
          replace hbel := Lib.hid (hbel.out.trans (hb9.mono hbel.out.size))
          clear hb9 hrow
          go_wp2
          go_ret
          exact ⟨rfl, hbel.out⟩
        · have hdd : decide (x.size ≠ 0) = true := decide_eq_true hz
          have hll : (stT x c).length = 2 := by rw [len_st, if_neg hz]
          rw [hdd]
          have hcv := convB o.toNat (97 + o % 20) (by omega)
          rw [hc.out] at hcv
          have hG := tGet_any q tb (stT x c) sP wr hT.out (by decide)
          rw [get_P] at hG
          replace hG := Lib.hid hG
          have hN := fun W (hW : TbO W q tb (stT x c)) => tNames_any q tb (stT x c) W hW (by omega)
          rw [hll] at hN
          generalize stT x c = L at hT hN hll
          replace hN := Lib.hid hN
          go_wp2_with fail
          refine hG.out.mono ?_
          rintro r w7 ⟨rfl, rfl⟩
          obtain ⟨w8, hw8⟩ : ∃ W, W = wr.alloc (.cells #[.int .u8 (97 + o % 20)] 5) := ⟨_, rfl⟩
          have hb8 : Below wr.heap.size wr w8 := hw8 ▸ (Below.refl _ _).alloc (Nat.le_refl _) _
          replace hT := Lib.hid (hT.out.grow hb8)
          replace hbel := Lib.hid (hbel.out.trans (hb8.mono hbel.out.size))
          clear hb8 hG
          go_wp2_with fail
          rw [← hw8]
          refine (hN.out _ hT.out).mono ?_
          rintro r w9 ⟨v9, rfl, hrow, hb9⟩
          clear hcv hw8
          obtain ⟨a9, cap9, rfl⟩ : ∃ a cap, v9 = .slice a 2 cap := by
            obtain ⟨_, ⟨rfl, h0⟩ | ⟨g, cap, cur, rfl, _⟩⟩ := hrow
            · simp at h0
            · exact ⟨_, cap, rfl⟩
          replace hbel := Lib.hid (hbel.out.trans (hb9.mono hbel.out.size))
          clear hb9 hrow
          go_wp2
          go_ret
          exact ⟨rfl, hbel.out⟩

/-! the row's step, written out by law.py -/
set_option maxRecDepth 100000 in
theorem lifted (os : Os) (started : os.Started) (H : Type) (enc : TypeId × Value → H) :
    ReturnsInHanded {} Try.checked os 6 .any (Rows.tableLastSpec.pre6 enc Try.prog Try.f6 Rows.tableLastRow.domain false) (Rows.tableLastSpec.post enc Try.prog Try.f6 false true false false) := by
  refine returnsInHanded_of_change_shaped (C := Try.checked) own started (by kernel_rfl) Try.func6
    (ChangeSpec.witness6 (enc := enc) (C := Try.checked) false ⟨#[], #[.slice none 0 0, .int .u8 0], []⟩ 8 (by kernel_rfl) (by kernel_rfl) (by kernel_rfl) (by kernel_rfl)) ?_
  intro W base args ds gs before hval0 hW hcnd _ hsh _
  have hval : ∀ (j : Nat) t v, Try.f6.params[j]? = some t → args[j]? = some v → Value.okWide Try.prog W .any base t v := hval0
  have hW' := hW
  obtain ⟨p, q, hA0, hV, rfl, hfz, hnd⟩ := hW
  have hA : DataW.TrodAll enc Try.prog W 0 (fun _ => true) true Try.f6.params.toList args.toList ds p := hA0
  rw [Try.params6] at hA hval
  obtain ⟨v0, vs0, d0, ds0, p0, q0, hargs, rfl, rfl, h0, r0⟩ := trodAll_cons hA
  obtain ⟨v1, vs1, d1, ds1, p1, q1, rfl, rfl, rfl, h1, r1⟩ := trodAll_cons r0
  obtain ⟨rfl, rfl, rfl⟩ := trodAll_nil r1
  obtain rfl : args = #[v0, v1] := by cases args; simp_all
  obtain ⟨rfl, rfl⟩ := trodVars_none hV
  have k0 := h0
  have lt0 : ∀ x ∈ p0, x.block < W.heap.size := by obtain ⟨m, hm⟩ := k0; exact DataW.trod_lt m _ _ _ hm
  have k1 := h1
  have lt1 : ∀ x ∈ p1, x.block < W.heap.size := by obtain ⟨m, hm⟩ := k1; exact DataW.trod_lt m _ _ _ hm
  obtain ⟨l0, w0, b0⟩ := slbyte_open (hval 0 45 v0 rfl rfl) h0
  obtain ⟨a1, rfl, rfl, rfl, w1⟩ := open_int Try.underlying5 (hval 1 5 v1 rfl rfl) h1
  have w1 := bounds_u8 w1
  clear hA0 hval0
  simp only [List.append_nil] at hW'
  obtain ⟨m, hm⟩ := maxLen_cell W hsh
  refine (walk m v0 l0 a1 W hm w0 b0 w1).mono fun e W' ⟨he, bel⟩ => ?_
  subst he
  exact ⟨_, rfl, _, _, _, [], _, [], hW', trodAll_mk1 (shut_bool Try.underlying4 _), (trodAll_cons_mk (Below.trod laidOut (by kernel_rfl) (of_decide_eq_true (by kernel_rfl)) k0 bel lt0) (trodAll_cons_mk (Below.trod laidOut (by kernel_rfl) (of_decide_eq_true (by kernel_rfl)) k1 bel lt1) trodAll_mk0)), rfl, bel.frame _, fun h => by cases h⟩

theorem over : Rows.tableLastRow.holds Try.pinned (OpenSpec.ofChange Rows.tableLastSpec) :=
  OpenClaim.holds_of_wide 6 Try.f6 rfl rfl rfl rfl rfl rfl rfl ⟨rfl, rfl, rfl, rfl, rfl⟩ rfl rfl rfl rfl rfl (by kernel_rfl) Try.func6 (by kernel_rfl)
    (of_decide_eq_true (by kernel_rfl)) (by unfold Func.isWrapper; first | (rw [if_pos (by decide +kernel)]; kernel_rfl) | (rw [if_neg (by decide +kernel)]; exact ⟨rfl, rfl⟩))
    (fun os started H enc _ => lifted os started H enc)

theorem proved : Rows.TableLastSaid := over
end Go.Proofs.Ytbmldiklgkojnaa.lawTableLast
