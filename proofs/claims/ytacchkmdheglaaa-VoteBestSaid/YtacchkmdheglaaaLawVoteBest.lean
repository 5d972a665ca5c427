/- The later view counts first, then the longer log; what stands fast anywhere stands fast, as far as the log goes: for all lists; no condition. -/
import Derived.Test.YtacchkmdheglaaaVtG
import Derived.Test.YtacchkmdheglaaaLawVoteMay
import Derived.Test.YtacchkmdheglaaaVtO
import Derived.Laws.BitsLemmas
namespace Go.Proofs.Ytacchkmdheglaaa.lawVoteBest
open Go.ChangeShapes Go.WideShapes Go.ChangeAt Go.RowKit
set_option linter.unusedVariables false

theorem and15 (x : Int) : bits .and .i64 x 15 = x % 16 := by
  have h15 : (BitVec.ofInt 64 15) = 15#64 := by decide
  have h1 : ((BitVec.ofInt 64 x) &&& (15#64)).toNat = (x % 18446744073709551616).toNat % 16 := by
    rw [BitVec.toNat_and, BitVec.toNat_ofInt, show (15#64).toNat = 2 ^ 4 - 1 from rfl, Nat.and_two_pow_sub_one_eq_mod]
    rfl
  show IntKind.i64.wrap (((BitVec.ofInt 64 x) &&& (BitVec.ofInt 64 15)).toNat : Int) = x % 16
  rw [h15, h1, IntKind.wrap_i64]
  omega

/-- the numbers of a vote -/
def vA (x : Int) : Int := x % 16
def vB (x : Int) : Nat := (x % 8).toNat
def vC (x : Int) (b : Nat) : Int := x % ((b : Int) + 1)
theorem vB_lt (x : Int) : vB x < 8 := by unfold vB; omega
theorem tmod_fix (x m : Int) (hm : 0 < m) : (x.tmod m + m).tmod m = x % m := by
  have h1 := Int.tmod_lt_of_pos x hm
  have h2 : -m < x.tmod m := by
    have := Int.lt_tmod_of_pos x hm
    omega
  rw [Int.tmod_eq_emod_of_nonneg (by omega)]
  have h3 := Int.mul_tdiv_add_tmod x m
  have h4 : x.tmod m + m = x + m * (1 - x.tdiv m) := by rw [Int.mul_sub]; omega
  rw [h4, Int.add_mul_emod_self_left]
theorem fixB (x : Int) : (x.tmod 8 + 8).tmod 8 = (vB x : Int) := by rw [tmod_fix x 8 (by omega)]; unfold vB; omega
theorem fixC (x : Int) (b : Nat) : (x.tmod ((b : Int) + 1) + b + 1).tmod ((b : Int) + 1) = vC x b := by
  rw [Int.add_assoc, tmod_fix x _ (by omega)]; rfl

theorem team_k : ∀ k : Nat, k < 8 → hasT (2 ^ k - 1) ((k : Int) + 1) = false ∧ (k < 7 → withT (2 ^ k - 1) ((k : Int) + 1) = 2 ^ (k + 1) - 1) ∧ mostT ((2 ^ k - 1 : Nat) : Int) 7 = decide (4 ≤ k) := by decide +kernel

/-- what is known of the votes so far -/
structure Bs (lp : List VtS) (k : Nat) (best most last long : Int) : Prop where
  len : lp.length = k
  team : teamV lp = 2 ^ k - 1
  com : comTo lp = most
  short : ∀ x ∈ lp, x.v.lg.length ≤ 60
  none : k = 0 → best = -1 ∧ last = 0 ∧ long = 0
  some : ∀ h : 0 < lp.length, ∃ m : Nat, ∃ c : Int, (bestTo lp[0] lp).v = ⟨best, last, logN m, c⟩ ∧ long = m ∧ 1 ≤ best ∧ best ≤ k
theorem teamV_map {l : List VtS} (l0 : List VtS) {x : Vt} (h : (l.map fun y => y.v) = (l0.map fun y => y.v) ++ [x]) : teamV l = withT (teamV l0) x.frm := by
  rw [teamV_congr (m := l0 ++ [⟨x, .slice none 0 0⟩]) (by simpa using h), teamV_snoc]
theorem bs_step {lp lp' : List VtS} {k : Nat} {best most last long : Int} {a c : Int} {b : Nat} (h : Bs lp k best most last long) (hk : k < 7) (hb : b < 8) (hc : 0 ≤ c)
    (hm : (lp'.map fun y => y.v) = (lp.map fun y => y.v) ++ [⟨(k : Int) + 1, a, logN b, c⟩]) :
    Bs lp' (k + 1) (if best < 0 ∨ last < a ∨ (a = last ∧ long < b) then (k : Int) + 1 else best) (max most c) (if best < 0 ∨ last < a ∨ (a = last ∧ long < b) then a else last) (if best < 0 ∨ last < a ∨ (a = last ∧ long < b) then (b : Int) else long) := by
  have hm2 : (lp'.map fun y => y.v) = (lp ++ [(⟨⟨(k : Int) + 1, a, logN b, c⟩, .slice none 0 0⟩ : VtS)]).map fun y => y.v := by simpa using hm
  have hlen := map_len hm2
  refine ⟨by simpa [h.len] using hlen, ?_, ?_, ?_, fun h0 => by omega, ?_⟩
  · rw [teamV_map lp hm, h.team]; exact (team_k k (by omega)).2.1 hk
  · rw [comTo_congr hm2]
    have : comTo (lp ++ [(⟨⟨(k : Int) + 1, a, logN b, c⟩, .slice Option.none 0 0⟩ : VtS)]) = max (comTo lp) c := by unfold comTo; rw [List.foldl_append]; rfl
    rw [this, h.com]
  · intro x hx
    have : x.v ∈ lp'.map fun y => y.v := List.mem_map_of_mem hx
    rw [hm, List.mem_append] at this
    rcases this with h1 | h1
    · obtain ⟨z, hz, e⟩ := List.mem_map.1 h1
      rw [← e]; exact h.short z hz
    · rw [List.mem_singleton] at h1; rw [h1, logN_len]; omega
  · intro h0
    by_cases hk0 : k = 0
    · obtain ⟨e1, e2, e3⟩ := h.none hk0
      have hl : lp = [] := List.eq_nil_of_length_eq_zero (by rw [h.len, hk0])
      subst hl
      obtain ⟨s, rfl⟩ := map_one (by simpa using hm)
      have hne : betterV ⟨(k : Int) + 1, a, logN b, c⟩ ⟨(k : Int) + 1, a, logN b, c⟩ = false := by simp [betterV]
      have hp : best < 0 ∨ last < a ∨ (a = last ∧ long < b) := .inl (by omega)
      simp only [if_pos hp]
      refine ⟨b, c, ?_, rfl, by omega, by omega⟩
      simp [bestTo, hne]
    · have hl0 : 0 < lp.length := by rw [h.len]; omega
      obtain ⟨m, c0, e1, e2, e3, e4⟩ := h.some hl0
      have hz : (lp'[0]'h0).v = (lp[0]'hl0).v := by
        have := congrArg (fun z => z[0]?) hm2
        simpa [h0, hl0, List.getElem_append_left] using this
      have hb2 : (bestTo (lp'[0]'h0) lp').v = (bestTo (lp[0]'hl0) (lp ++ [(⟨⟨(k : Int) + 1, a, logN b, c⟩, .slice Option.none 0 0⟩ : VtS)])).v := bestTo_congr hz hm2
      have hstep : bestTo (lp[0]'hl0) (lp ++ [(⟨⟨(k : Int) + 1, a, logN b, c⟩, .slice Option.none 0 0⟩ : VtS)]) = if betterV ⟨(k : Int) + 1, a, logN b, c⟩ (bestTo (lp[0]'hl0) lp).v then (⟨⟨(k : Int) + 1, a, logN b, c⟩, .slice Option.none 0 0⟩ : VtS) else bestTo (lp[0]'hl0) lp := by
        unfold bestTo; rw [List.foldl_append]; rfl
      rw [hstep, e1] at hb2
      have hbv : betterV ⟨(k : Int) + 1, a, logN b, c⟩ ⟨best, last, logN m, c0⟩ = decide (best < 0 ∨ last < a ∨ (a = last ∧ long < b)) := by
        rw [Bool.eq_iff_iff, better_iff, decide_eq_true_iff]
        simp only [logN_len]
        omega
      rw [hbv] at hb2
      by_cases hp : best < 0 ∨ last < a ∨ (a = last ∧ long < b)
      · simp only [hp, decide_true, if_true] at hb2 ⊢
        exact ⟨b, c, hb2, rfl, by omega, by omega⟩
      · simp only [hp, decide_false, if_false] at hb2 ⊢
        rw [if_neg Bool.false_ne_true] at hb2
        exact ⟨m, c0, by rw [hb2, e1], e2, e3, by omega⟩

theorem ok_at {lp : List VtS} {k : Nat} {best most last long : Int} (h : Bs lp k best most last long) (hk : k < 7) (x y : Int) (b : Nat) (hb : b < 8) :
    okV 20 7 lp ⟨(k : Int) + 1, vA x, logN b, vC y b⟩ = true := by
  have hn := (team_k k (by omega)).1
  have hc := Int.emod_nonneg y (show ((b : Int) + 1) ≠ 0 by omega)
  have hc2 := Int.emod_lt_of_pos y (show 0 < ((b : Int) + 1) by omega)
  rw [lawVoteMay.okV_num (by omega), h.team, hn]
  unfold vA vC
  simp <;> omega

set_option maxRecDepth 100000 in
set_option maxHeartbeats 8000000 in
theorem walk (va : Value) (la : List Int) (vb : Value) (lb : List Int) (vc : Value) (lc : List Int) (w : World) (ha : rdI w va la) (ha2 : ∀ x ∈ la, I64 x) (hb : rdI w vb lb) (hb2 : ∀ x ∈ lb, I64 x) (hc : rdI w vc lc) (hc2 : ∀ x ∈ lc, I64 x) :
    Calls Try.prog 10 #[va, vb, vc] w fun e w' => e = .returned (.bool true) ∧ Below w.heap.size w w' := by
  obtain ⟨aa, ca, rfl⟩ := ha.len
  obtain ⟨ab, cb, rfl⟩ := hb.len
  obtain ⟨ac, cc, rfl⟩ := hc.len
  obtain ⟨N, hN⟩ : ∃ N, N = min (min la.length 7) (min lb.length lc.length) := ⟨_, rfl⟩
  have hNa : N ≤ la.length := by omega
  have hNb : N ≤ lb.length := by omega
  have hNc : N ≤ lc.length := by omega
  have hN7 : N ≤ 7 := by omega
  replace hN := Lib.hid hN
  replace ha := Lib.hid ha
  replace hb := Lib.hid hb
  replace hc := Lib.hid hc
  replace ha2 := Lib.hid ha2
  replace hb2 := Lib.hid hb2
  replace hc2 := Lib.hid hc2
  go_enter Try.func10, Try.ntmps10
  go_wp2_with fail
  refine (b20_any _).mono ?_
  rintro e w1 ⟨rfl, hb1⟩
  replace hb1 := Lib.hid hb1
  go_wp2_with fail
  refine (vNew_st 20 7 _ (by omega) (by omega) (by decide)).mono ?_
  rintro r w2 ⟨b, rfl, hS, hbel2⟩
  have hB2 := Lib.hid (hb1.out.trans (hbel2.mono hb1.out.size))
  have hS2 : VSt 78 47 (fun _ => False) w w2 b 20 7 [] := by
    obtain ⟨F, D, h1, h2, h3⟩ := hS
    exact ⟨F, D, fun k hk => ⟨Nat.le_trans hb1.out.size (h1 k hk).1, (h1 k hk).2⟩, fun k hk => hk.elim, h3⟩
  replace hS2 := Lib.hid hS2
  clear hS hbel2 hb1
  go_upto_region 5 with (fail)
  go_cut [9] (fun s wx => s = .int .i64 (N : Int) ∧ w2 = wx)
  case first =>
    go_wp2_with fail
    all_goals
      go_meet
      have h := hN.out
      exact ⟨by congr 1; (repeat' split) <;> omega, rfl⟩
  case rest =>
    obtain ⟨rfl, rfl⟩ := hcut
    go_wp2
    go_loopw [10, 11, 12, 13, 14] (fun best most last long i wr => ∃ (k : Nat) (lp : List VtS) (vbest vmost vlast vlong : Int), k ≤ N ∧ i = .int .i64 k ∧ best = .int .i64 vbest ∧ most = .int .i64 vmost ∧ last = .int .i64 vlast ∧ long = .int .i64 vlong ∧
      Bs lp k vbest vmost vlast vlong ∧ VSt 78 47 (fun _ => False) w wr b 20 7 lp ∧ Below w.heap.size w wr) (fun _ _ _ _ i _ => N - (intOf i).toNat)
    case atStart => exact ⟨0, [], -1, 0, 0, 0, Nat.zero_le _, rfl, rfl, rfl, rfl, rfl, ⟨rfl, rfl, rfl, fun x hx => (by cases hx), fun _ => ⟨rfl, rfl, rfl⟩, fun h => by simp at h⟩, hS2.out, hB2.out⟩
    case round =>
      obtain ⟨k, lp, vbest, vmost, vlast, vlong, hk, rfl, rfl, rfl, rfl, rfl, hBs, hS, hbel⟩ := hrel
      clear hS2 hB2
      by_cases hlt : k < N
      · obtain ⟨_, _, hae, _, _, hax⟩ := ha.out.grow hbel
        obtain ⟨_, _, hbe, _, _, hbx⟩ := hb.out.grow hbel
        obtain ⟨_, _, hce, _, _, hcx⟩ := hc.out.grow hbel
        injection hae with q1 q2 q3; subst q1 q3; clear q2
        injection hbe with q1 q2 q3; subst q1 q3; clear q2
        injection hce with q1 q2 q3; subst q1 q3; clear q2
        obtain ⟨ga, oa, rfl, xa⟩ := hax (by omega)
        obtain ⟨gb, ob, rfl, xb⟩ := hbx (by omega)
        obtain ⟨gc, oc, rfl, xc⟩ := hcx (by omega)
        have hka : k < la.length := by omega
        have hkb : k < lb.length := by omega
        have hkc : k < lc.length := by omega
        have ya := xa k hka
        have yb := xb k (by omega)
        have yc := xc k (by omega)
        have ia := ha2.out _ (List.getElem_mem (show k < la.length by omega))
        have ib := hb2.out _ (List.getElem_mem (show k < lb.length by omega))
        have ic := hc2.out _ (List.getElem_mem (show k < lc.length by omega))
        clear xa xb xc hax hbx hcx
        generalize la[k] = A at ya ia
        generalize lb[k] = B at yb ib
        generalize lc[k] = C at yc ic
        obtain ⟨ia1, ia2⟩ := ia
        obtain ⟨ib1, ib2⟩ := ib
        obtain ⟨ic1, ic2⟩ := ic
        have tb1 := Int.tmod_lt_of_pos B (show (0 : Int) < 8 by omega)
        have tb2 := Int.lt_tmod_of_pos B (show (0 : Int) < 8 by omega)
        have hfb := fixB B
        replace hbel := Lib.hid hbel
        replace hS := Lib.hid hS
        replace hBs := Lib.hid hBs
        have ua := upTo_cell ya
        have ub := upTo_cell yb
        have hcl := cell_lt yc
        go_upto_region 11 with (fail)
        refine wp_region_up (by kernel_rfl) (by kernel_rfl) ?_
        repeat (go_big_quiet_step (fail))
        refine wpQuiet_nil ?_
        intro w3 hw3
        have hb3 := up_below hw3
        have zc := hb3.cell (p := ⟨gc, oc + k, none⟩) hcl
        rw [yc] at zc
        clear hw3 ua ub ya yb yc
        replace hb3 := Lib.hid hb3
        obtain ⟨bb, hbb⟩ : ∃ bb, vB B = bb := ⟨_, rfl⟩
        have hb8 : bb < 8 := by rw [← hbb]; exact vB_lt B
        obtain ⟨a, haa⟩ : ∃ a, bits .and .i64 A 15 = a := ⟨_, rfl⟩
        have hav : a = vA A := by rw [← haa, and15]; rfl
        have ha1 : 0 ≤ a ∧ a < 16 := by rw [hav]; unfold vA; omega
        rw [hbb, haa]
        have tc1 := Int.tmod_lt_of_pos C (show (0 : Int) < (bb : Int) + 1 by omega)
        have tc2 := Int.lt_tmod_of_pos C (show (0 : Int) < (bb : Int) + 1 by omega)
        have tc3 : (bb : Int) + 1 ≠ 0 := by omega
        obtain ⟨c, hcc⟩ : ∃ c, vC C bb = c := ⟨_, rfl⟩
        have hfc := fixC C bb
        rw [hcc] at hfc
        have hc1 : 0 ≤ c ∧ c ≤ bb := by
          rw [← hcc]; unfold vC
          have := Int.emod_nonneg C (show ((bb : Int) + 1) ≠ 0 by omega)
          have := Int.emod_lt_of_pos C (show 0 < ((bb : Int) + 1) by omega)
          omega
        have hok : okV 20 7 lp ⟨(k : Int) + 1, a, logN bb, c⟩ = true := by rw [hav, ← hcc]; exact ok_at hBs.out (by omega) A C bb hb8
        replace hav := Lib.hid hav
        replace hcc := Lib.hid hcc
        replace hok := Lib.hid hok
        clear hfb hbb haa tb1 tb2
        go_wp2_with fail
        refine (logOf_any bb _ (by omega)).mono ?_
        rintro r w5 ⟨s5, rfl, ho5, hb5⟩
        have hb35 := hb3.out.trans (hb5.mono hb3.out.size)
        have hS5 := Lib.hid (hS.out.grow hb35)
        have hB5 := Lib.hid (hbel.out.trans (hb35.mono hbel.out.size))
        have hR5 := Lib.hid ho5.rd
        obtain ⟨sa5, sc5, rfl⟩ := ho5.rd.len
        rw [logN_len] at hR5 ⊢
        clear hb35 hb5 ho5 hb3
        have hlpl : Hid (lp.length ≤ 100) := Lib.hid (by have := hBs.out.len; omega)
        have hbest : ¬ k = 0 → 1 ≤ vbest := fun h => by
          obtain ⟨_, _, _, _, h3, _⟩ := hBs.out.some (by have := hBs.out.len; omega)
          exact h3
        have hbest2 := hBs.out.none
        replace hbest := Lib.hid hbest
        replace hbest2 := Lib.hid hbest2
        clear hfc tc1 tc2 tc3 zc
        go_wp2_with fail
        refine (vAdd_st b 20 7 lp ⟨(k : Int) + 1, a, logN bb, c⟩ (.slice sa5 bb sc5) _ w _ hS5.out hB5.out.size hR5.out hlpl.out).mono ?_
        rintro r w6 ⟨rfl, lp', hS6, hm6, hc6⟩
        rw [hok.out] at hm6 ⊢
        have hB6 := Lib.hid (hB5.out.trans (hc6.below hB5.out.size fun k hk => hk.1))
        have hBs6 := bs_step hBs.out (by omega) hb8 hc1.1 (by simpa using hm6)
        replace hBs6 := Lib.hid hBs6
        replace hS6 := Lib.hid hS6
        clear hS5 hB5 hR5 hm6 hc6 hok hS hbel hBs
        obtain ⟨M, hM⟩ : ∃ M, max vmost c = M := ⟨_, rfl⟩
        rw [hM] at hBs6
        have hM1 : vmost < c → M = c := fun h => by omega
        have hM2 : ¬ vmost < c → M = vmost := fun h => by omega
        replace hM := Lib.hid hM
        go_upto_region 15 with (fail)
        go_cut [11] (fun s wx => s = .int .i64 M ∧ w6 = wx)
        case first =>
          by_cases hmx : vmost < c
          · have e := hM1 (by omega)
            subst e
            clear hM1 hM2
            go_wp2
            go_meet
            exact ⟨rfl, rfl⟩
          · have e := hM2 (by omega)
            subst e
            clear hM1 hM2
            go_wp2
            go_meet
            exact ⟨rfl, rfl⟩
        case rest =>
          obtain ⟨rfl, rfl⟩ := hcut
          clear hM1 hM2
          by_cases e1 : vbest < 0
          · have hP : vbest < 0 ∨ vlast < a ∨ (a = vlast ∧ vlong < (bb : Int)) := .inl e1
            simp only [if_pos hP] at hBs6
            clear hP
            go_wp2
            go_roundw
            case rel => exact ⟨k + 1, lp', _, _, _, _, by omega, by go_num, rfl, rfl, rfl, rfl, hBs6.out, hS6.out, hB6.out⟩
            case measure => simp [intOf]; omega
          by_cases e2 : vlast < a
          · have hP : vbest < 0 ∨ vlast < a ∨ (a = vlast ∧ vlong < (bb : Int)) := .inr (.inl e2)
            simp only [if_pos hP] at hBs6
            clear hP
            go_wp2
            go_roundw
            case rel => exact ⟨k + 1, lp', _, _, _, _, by omega, by go_num, rfl, rfl, rfl, rfl, hBs6.out, hS6.out, hB6.out⟩
            case measure => simp [intOf]; omega
          by_cases e3 : a = vlast
          · by_cases e4 : vlong < (bb : Int)
            · have hP : vbest < 0 ∨ vlast < a ∨ (a = vlast ∧ vlong < (bb : Int)) := .inr (.inr ⟨e3, e4⟩)
              simp only [if_pos hP] at hBs6
              clear hP
              subst e3
              go_wp2
              go_roundw
              case rel => exact ⟨k + 1, lp', _, _, _, _, by omega, by go_num, rfl, rfl, rfl, rfl, hBs6.out, hS6.out, hB6.out⟩
              case measure => simp [intOf]; omega
            · have hP : ¬ (vbest < 0 ∨ vlast < a ∨ (a = vlast ∧ vlong < (bb : Int))) := by omega
              simp only [if_neg hP] at hBs6
              clear hP
              subst e3
              go_wp2
              go_roundw
              case rel => exact ⟨k + 1, lp', _, _, _, _, by omega, by go_num, rfl, rfl, rfl, rfl, hBs6.out, hS6.out, hB6.out⟩
              case measure => simp [intOf]; omega
          · have hP : ¬ (vbest < 0 ∨ vlast < a ∨ (a = vlast ∧ vlong < (bb : Int))) := by omega
            simp only [if_neg hP] at hBs6
            have d : (a == vlast) = false := by simpa using e3
            clear hP
            go_wp2
            go_roundw
            case rel => exact ⟨k + 1, lp', _, _, _, _, by omega, by go_num, rfl, rfl, rfl, rfl, hBs6.out, hS6.out, hB6.out⟩
            case measure => simp [intOf]; omega
      · obtain rfl : k = N := by omega
        have ht := hBs.team
        have hmo := (team_k k (by omega)).2.2
        rw [← ht] at hmo
        have hbl := hbel
        by_cases h4 : k < 4
        · have hno : mostT (teamV lp : Nat) 7 = false := by rw [hmo]; simp; omega
          clear hmo ht hbl
          replace hno := Lib.hid hno
          replace hS := Lib.hid hS
          replace hbel := Lib.hid hbel
          replace hBs := Lib.hid hBs
          go_wp2_with fail
          refine (vBest_no b 20 7 lp _ hS.out.rd hno.out).mono ?_
          rintro r w3 ⟨rfl, hb3⟩
          have hb4 := hb3.alloc hb3.size (boxV 0 0 (.slice none 0 0) 0 47)
          have hS4 := Lib.hid (hS.out.grow hb4)
          have hB4 := Lib.hid (hbel.out.trans (hb4.mono hbel.out.size))
          clear hb3 hb4 hS hbel
          go_wp2_with fail
          refine (vEnough_any b 20 7 lp _ hS4.out.rd).mono ?_
          rintro r w5 ⟨rfl, hb5⟩
          rw [hno.out]
          have hB5 := hB4.out.trans (hb5.mono hB4.out.size)
          go_wp2
          go_ret
          exact ⟨rfl, hB5⟩
        · have hyes : mostT (teamV lp : Nat) 7 = true := by rw [hmo]; simp; omega
          have hl0 : 0 < lp.length := by have := hBs.len; omega
          obtain ⟨m, c, hy, hlm, _, _⟩ := hBs.some hl0
          subst hlm
          have hcm := hBs.com
          have hsh := hBs.short
          obtain ⟨C, hC⟩ : ∃ C, min vmost (m : Int) = C := ⟨_, rfl⟩
          have hC1 : (m : Int) < vmost → C = m := fun h => by omega
          have hC2 : ¬ (m : Int) < vmost → C = vmost := fun h => by omega
          clear hmo ht hbl
          replace hyes := Lib.hid hyes
          replace hS := Lib.hid hS
          replace hbel := Lib.hid hbel
          replace hBs := Lib.hid hBs
          replace hy := Lib.hid hy
          replace hcm := Lib.hid hcm
          replace hsh := Lib.hid hsh
          replace hC := Lib.hid hC
          go_wp2_with fail
          refine (vBest_yes b 20 7 lp _ _ _ _ hS.out.rd hyes.out hl0 hsh.out rfl rfl hcm.out).mono ?_
          rintro r w3 ⟨s3, rfl, ho3, hb3⟩
          rw [hy.out] at ho3 ⊢
          dsimp only at ho3 ⊢
          obtain ⟨a3, c3, rfl⟩ := ho3.rd.len
          rw [logN_len, hC.out]
          have hx4 := at_new w3 (boxV vbest vlast (.slice a3 m c3) C 47)
          have hb4 := hb3.alloc hb3.size (boxV vbest vlast (.slice a3 m c3) C 47)
          have hS4 := Lib.hid (hS.out.grow hb4)
          have hB4 := Lib.hid (hbel.out.trans (hb4.mono hbel.out.size))
          replace hx4 := Lib.hid hx4
          clear hb3 hb4 hS hbel ho3
          go_wp2_with fail
          refine (vEnough_any b 20 7 lp _ hS4.out.rd).mono ?_
          rintro r w5 ⟨rfl, hb5⟩
          rw [hyes.out]
          have hB5 := hB4.out.trans (hb5.mono hB4.out.size)
          have hx5 := at_below hx4.out hb5
          have f0 := cell_at hx5 0
          have f1 := cell_at hx5 1
          have f2 := cell_at hx5 2
          have f3 := cell_at hx5 3
          simp only [List.getElem?_toArray, List.getElem?_cons_zero, List.getElem?_cons_succ] at f0 f1 f2 f3
          clear hb5 hx4
          replace hx5 := Lib.hid hx5
          replace hB5 := Lib.hid hB5
          by_cases hmx : (m : Int) < vmost
          · have e := hC1 (by omega)
            clear hC1 hC2
            replace hC := Lib.hid hC
            subst e
            go_wp2
            go_ret
            exact ⟨ret_bool (by simp), hB5.out⟩
          · have e := hC2 (by omega)
            clear hC1 hC2
            replace hC := Lib.hid hC
            subst e
            go_wp2
            go_ret
            exact ⟨ret_bool (by simp), hB5.out⟩

/-! the row's step, written out by law.py -/
set_option maxRecDepth 100000 in
theorem lifted (os : Os) (started : os.Started) (H : Type) (enc : TypeId × Value → H) :
    ReturnsInHanded {} Try.checked os 10 .any (Rows.voteBestSpec.pre6 enc Try.prog Try.f10 Rows.voteBestRow.domain false) (Rows.voteBestSpec.post enc Try.prog Try.f10 false true false false) := by
  refine returnsInHanded_of_change (C := Try.checked) own started (by kernel_rfl) Try.func10
    (ChangeSpec.witness6 (enc := enc) (C := Try.checked) false ⟨#[], #[.slice none 0 0, .slice none 0 0, .slice none 0 0], []⟩ 8 (by kernel_rfl) (by kernel_rfl) (by kernel_rfl) (by kernel_rfl)) ?_
  intro W base args ds gs before hval0 hW hcnd _
  have hval : ∀ (j : Nat) t v, Try.f10.params[j]? = some t → args[j]? = some v → Value.okWide Try.prog W .any base t v := hval0
  have hW' := hW
  obtain ⟨p, q, hA0, hV, rfl, hfz, hnd⟩ := hW
  have hA : DataW.TrodAll enc Try.prog W 0 (fun _ => true) true Try.f10.params.toList args.toList ds p := hA0
  rw [Try.params10] at hA hval
  obtain ⟨v0, vs0, d0, ds0, p0, q0, hargs, rfl, rfl, h0, r0⟩ := trodAll_cons hA
  obtain ⟨v1, vs1, d1, ds1, p1, q1, rfl, rfl, rfl, h1, r1⟩ := trodAll_cons r0
  obtain ⟨v2, vs2, d2, ds2, p2, q2, rfl, rfl, rfl, h2, r2⟩ := trodAll_cons r1
  obtain ⟨rfl, rfl, rfl⟩ := trodAll_nil r2
  obtain rfl : args = #[v0, v1, v2] := by cases args; simp_all
  obtain ⟨rfl, rfl⟩ := trodVars_none hV
  have k0 := h0
  have lt0 : ∀ x ∈ p0, x.block < W.heap.size := by obtain ⟨m, hm⟩ := k0; exact DataW.trod_lt m _ _ _ hm
  have k1 := h1
  have lt1 : ∀ x ∈ p1, x.block < W.heap.size := by obtain ⟨m, hm⟩ := k1; exact DataW.trod_lt m _ _ _ hm
  have k2 := h2
  have lt2 : ∀ x ∈ p2, x.block < W.heap.size := by obtain ⟨m, hm⟩ := k2; exact DataW.trod_lt m _ _ _ hm
  obtain ⟨l0, w0, b0⟩ := rdI_open Try.underlying35 Try.underlying2 (by kernel_rfl) (hval 0 35 v0 rfl rfl) h0
  obtain ⟨l1, w1, b1⟩ := rdI_open Try.underlying69 Try.underlying3 (by kernel_rfl) (hval 1 69 v1 rfl rfl) h1
  obtain ⟨l2, w2, b2⟩ := rdI_open Try.underlying69 Try.underlying3 (by kernel_rfl) (hval 2 69 v2 rfl rfl) h2
  clear hA0 hval0
  simp only [List.append_nil] at hW'
  refine (walk v0 l0 v1 l1 v2 l2 W w0 b0 w1 b1 w2 b2).mono fun e W' ⟨he, bel⟩ => ?_
  subst he
  exact ⟨_, rfl, _, _, _, [], _, [], hW', trodAll_mk1 (shut_bool Try.underlying4 _), (trodAll_cons_mk (Below.trod laidOut (by kernel_rfl) (of_decide_eq_true (by kernel_rfl)) k0 bel lt0) (trodAll_cons_mk (Below.trod laidOut (by kernel_rfl) (of_decide_eq_true (by kernel_rfl)) k1 bel lt1) (trodAll_cons_mk (Below.trod laidOut (by kernel_rfl) (of_decide_eq_true (by kernel_rfl)) k2 bel lt2) trodAll_mk0))), rfl, bel.frame _, fun h => by cases h⟩

theorem over : Rows.voteBestRow.holds Try.pinned (OpenSpec.ofChange Rows.voteBestSpec) :=
  OpenClaim.holds_of_wide 10 Try.f10 rfl rfl rfl rfl rfl rfl rfl ⟨rfl, rfl, rfl, rfl, rfl⟩ rfl rfl rfl rfl rfl (by kernel_rfl) Try.func10 (by kernel_rfl)
    (of_decide_eq_true (by kernel_rfl)) (by unfold Func.isWrapper; first | (rw [if_pos (by decide +kernel)]; kernel_rfl) | (rw [if_neg (by decide +kernel)]; exact ⟨rfl, rfl⟩))
    (fun os started H enc _ => lifted os started H enc)

theorem proved : Rows.VoteBestSaid := over
end Go.Proofs.Ytacchkmdheglaaa.lawVoteBest
