/- A probe is answered by most, or it is not; one that is later says so of those ahead of it: for all numbers; no condition. -/
import Derived.Test.YtimffflhfaiakaaQnQ
import Derived.Test.YtimffflhfaiakaaTeamC
import Derived.Deep.OwnRows
namespace Go.Proofs.Ytimffflhfaiakaa.lawQuorumProbes
open Go.ChangeShapes Go.WideShapes Go.ChangeAt Go.RowKit
set_option linter.unusedVariables false

/-- while probes are answered: G is what was answered, member by member -/
structure QP (T n m p : Nat) (L : List Int) (E : TypeId) (w5 wr : World) (b nb : Nat) (H P G : List Int) (k : Nat) : Prop where
  q : qO wr b n T m H P p
  g : gO wr nb G E
  e : G = L.map fun y => P.getD y.toNat 0
  h0 : ∀ i, 0 ≤ P.getD i 0
  hz : ∀ i : Nat, hasT T (i : Int) = false → P.getD i 0 = 0
  left : ∀ j (h : j < L.length), k ≤ j → P.getD L[j].toNat 0 = 0
  chg : Chg (fun j => j = b ∨ j = nb) w5 wr

set_option maxRecDepth 100000 in
set_option maxHeartbeats 8000000 in
theorem walk (n mem pb : Int) (v : Value) (l : List Int) (w : World) (hn : I64 n) (hmm : I64 mem) (hpb : I64 pb) (hr : rdI w v l) (hI : ∀ x ∈ l, I64 x) :
    Calls Try.prog 11 #[.int .i64 n, .int .i64 mem, .int .i64 pb, v] w fun e w' => e = .returned (.bool true) ∧ Below w.heap.size w w' := by
  obtain ⟨a, cap, rfl, hmx, hM, ha⟩ := hr
  unfold maxLen at hM
  replace ha := Lib.hid ha
  replace hI := Lib.hid hI
  clear hn hmm hpb
  go_enter Try.func11, Try.ntmps11
  go_wp2_with fail
  refine (b21_any _).mono ?_
  rintro r w1 ⟨rfl, hb1⟩
  replace hb1 := Lib.hid hb1
  cases hm : mostT mem n
  · replace hm := Lib.hid hm
    go_wp2_with fail
    refine (rmost_any mem n _).mono ?_
    rintro r w2 ⟨rfl, hb2⟩
    rw [hm.out]
    have hB2 := hb1.out.trans (hb2.mono hb1.out.size)
    go_wp2
    go_ret
    exact ⟨rfl, hB2⟩
  obtain ⟨T, rfl⟩ : ∃ T : Nat, mem = T := by
    have h := hm
    simp only [mostT, Bool.and_eq_true] at h
    have := mayT_lt h.1
    exact ⟨mem.toNat, by omega⟩
  obtain ⟨n, rfl⟩ : ∃ N : Nat, n = N := by
    have := mostT_has hm
    exact ⟨n.toNat, by omega⟩
  have hmH := Lib.hid hm
  go_wp2_with fail
  refine (rmost_any T n _).mono ?_
  rintro r w2 ⟨rfl, hb2⟩
  rw [hmH.out]
  have hB2 := Lib.hid (hb1.out.trans (hb2.mono hb1.out.size))
  clear hb2 hb1 hmH
  by_cases c1 : pb < 0
  · go_wp2
    go_ret
    exact ⟨rfl, hB2.out⟩
  by_cases c2 : 20 < pb
  · go_wp2
    go_ret
    exact ⟨rfl, hB2.out⟩
  obtain ⟨p, rfl⟩ : ∃ p : Nat, pb = p := ⟨pb.toNat, by omega⟩
  have d1 : decide ((p : Int) < 0) = false := by simp
  have d2 : decide ((20 : Int) < (p : Int)) = false := by simp; omega
  have d3 : decide (20 < p) = false := by simp; omega
  have hp20 : p ≤ 20 := by omega
  clear c1 c2
  obtain ⟨hn3, hn7, hT, hmost, _⟩ := mostT_has hm
  have hl0 := list_first hm
  have hLi : ∀ y ∈ listT T, hasT T y = true ∧ 1 ≤ y ∧ y ≤ 7 := fun y hy => list_has hy
  have hLn := listT_len T hT
  have hLd := listT_nodup hT
  replace hm := Lib.hid hm
  go_wp2_with fail
  refine (rlist_nat T _ hT).mono ?_
  rintro r w3 ⟨vL, rfl, hoL, hb3⟩
  have hB3 := Lib.hid (hB2.out.trans (hb3.mono hB2.out.size))
  obtain ⟨L, hL⟩ : ∃ L, listT T = L := ⟨_, rfl⟩
  rw [hL] at hoL hl0 hLi hLn hLd
  have hlen7 : L.length ≤ 7 := by rw [hLn]; exact lenT_le T
  obtain ⟨aL, cL, rfl, hm1, hM1, hx1⟩ := hoL.rd
  obtain ⟨gL, oL, rfl, hxL⟩ := hx1 hl0
  have e0 := hxL 0 hl0
  obtain ⟨hme, hme1, hme7⟩ := hLi _ (List.getElem_mem hl0)
  obtain ⟨me, hm0⟩ : ∃ me, L[0] = me := ⟨_, rfl⟩
  rw [hm0] at e0 hme hme1 hme7
  obtain ⟨m, rfl⟩ : ∃ m : Nat, me = m := ⟨me.toNat, by omega⟩
  rw [Nat.add_zero] at e0
  replace hm0 := Lib.hid hm0
  have hgL : gL < w3.heap.size := cell_lt e0
  clear hx1
  replace hxL := Lib.hid hxL
  unfold maxLen at hM1
  replace hoL := Lib.hid hoL
  replace hLi := Lib.hid hLi
  replace hLn := Lib.hid hLn
  replace hLd := Lib.hid hLd
  replace hL := Lib.hid hL
  have hme' : hasT (T : Int).toNat (m : Int) = true := by rw [Int.toNat_natCast]; exact hme
  replace hme' := Lib.hid hme'
  clear hme
  go_wp2_with fail
  refine (qNew_ok n T m _ hm.out hme'.out).mono ?_
  rintro r w4 ⟨rfl, hq4, hb4⟩
  have hB4 := Lib.hid (hB3.out.trans (hb4.mono hB3.out.size))
  obtain ⟨b, hb⟩ : ∃ b, b = w3.heap.size := ⟨_, rfl⟩
  rw [← hb] at hq4 ⊢
  have hwb : w.heap.size ≤ b := by have := hB3.out.size; omega
  have hRL4 := Lib.hid (hoL.out.rd.grow hb4)
  have hgLb : gL < b := by omega
  have hb4s : b < w4.heap.size := at_lt hq4.1
  replace hb := Lib.hid hb
  replace hq4 := Lib.hid hq4
  clear hb4 hb3 e0 hB2 hB3 hxL hoL
  replace hRL4 := hRL4
  go_wp2
  go_loopw [12] (fun i wr => ∃ (k : Nat) (P : List Int), k ≤ p ∧ i = .int .i64 k ∧ qO wr b n T m z8 P k ∧ (∀ i, P.getD i 0 = if i = m then (k : Int) else 0) ∧ Chg (fun j => j = b) w4 wr) (fun i _ => p - (intOf i).toNat)
  case atStart => exact ⟨0, z8, Nat.zero_le _, rfl, hq4.out, fun i => by rw [z8_get]; split <;> rfl, Chg.refl _ _⟩
  case round =>
    obtain ⟨k, P, hk, rfl, hq, hPm, hcg⟩ := hrel
    clear hq4
    by_cases hlt : k < p
    · replace hPm := Lib.hid hPm
      go_wp2_with fail
      refine (qNext_any b n T m z8 P k m _ hq rfl (by omega) (by omega) (by omega)).mono ?_
      rintro r w5 ⟨rfl, hq5, hc5⟩
      have hP5 : ∀ i, (P.set m ((k : Int) + 1)).getD i 0 = if i = m then ((k + 1 : Nat) : Int) else 0 := by
        intro i
        rw [getD_set (by rw [hq.2.2]; omega), hPm.out i]
        split <;> simp
      have hcg5 := Lib.hid (hcg.more hc5 (fun i hi => .inl hi))
      have hq5' : qO w5 b n T m z8 (P.set m ((k : Int) + 1)) ((k + 1 : Nat) : Int) := by rw [Int.natCast_add, Int.natCast_one]; exact hq5
      replace hq5' := Lib.hid hq5'
      replace hP5 := Lib.hid hP5
      clear hc5 hq5 hq hcg
      go_wp2
      go_roundw
      case rel => exact ⟨k + 1, P.set m ((k : Int) + 1), by omega, by go_num, hq5'.out, hP5.out, hcg5.out⟩
      case measure => simp [intOf]; omega
    obtain rfl : k = p := by omega
    obtain ⟨wa, rfl⟩ : ∃ x, x = wr := ⟨_, rfl⟩
    have hBa := Lib.hid (hB4.out.trans (hcg.below hB4.out.size fun j hj => by have : j = b := hj; omega))
    have hRLa := Lib.hid (hRL4.out.chg hcg (fun j hj => by
      have : gL = j := by injection hj
      subst this
      intro h
      have : gL = b := h
      omega))
    have hwa := hcg.size
    have hqa := Lib.hid hq
    replace hPm := Lib.hid hPm
    clear hcg hq hlt hk hRL4 hB4
    have hmk := run_make_row' (P := Try.prog) 65 2 (.int .i64 0) 8 Try.underlying65 infoI64 rfl .i64 .i64 L.length (by omega) (by omega)
    go_upto_region 14 with (fail)
    obtain ⟨w5, hw5⟩ : ∃ W, W = wa.alloc (.cells (madeCells #[.int .i64 0] L.length) 2) := ⟨_, rfl⟩
    rw [← hw5]
    have hb5 : Below wa.heap.size wa w5 := hw5 ▸ (Below.refl _ _).alloc (Nat.le_refl _) _
    have hg5 : gO w5 wa.heap.size (List.replicate L.length 0) 2 := by rw [hw5, made_gO]; exact at_new _ _
    obtain ⟨nb, hnb⟩ : ∃ nb, nb = wa.heap.size := ⟨_, rfl⟩
    rw [← hnb] at hg5 ⊢
    have hbn : b < nb := by omega
    have hnw : w.heap.size ≤ nb := by omega
    have hnlt5 : nb < w5.heap.size := at_lt hg5
    have hgc5 := hg5.cell (j := 0) (by simpa using hl0)
    have hgz5 := free_at hg5 0
    have hg6 := hg5.set 0 (k : Int)
    have hq5 := hqa.out.below hb5
    have hcs : Chg (fun j => j = nb) w5 (w5.setCell ⟨nb, 0, none⟩ (.int .i64 k)) := chg_set (Chg.refl _ _) rfl
    have hq6 := hq5.chg hcs (fun e => by have : b = nb := e; omega)
    have hB6 := Lib.hid ((hBa.out.trans (hb5.mono hBa.out.size)).trans (hcs.below (Nat.le_trans hBa.out.size hb5.size) fun j hj => by have : j = nb := hj; omega))
    have hRL6 := Lib.hid ((hRLa.out.grow hb5).chg hcs (fun j hj => by
      have : gL = j := by injection hj
      subst this
      intro h
      have : gL = nb := h
      omega))
    have hs6 : (w5.setCell ⟨nb, 0, none⟩ (.int .i64 k)).heap.size = w5.heap.size := World.size_setCell _ _ _
    replace hg6 := Lib.hid hg6
    replace hq6 := Lib.hid hq6
    replace hs6 := Lib.hid hs6
    replace hnb := Lib.hid hnb
    clear hw5 hb5 hg5 hcs hq5 hqa hBa hRLa hmk
    go_upto_region 15 with (fail)
    clear hgc5 hgz5
    generalize World.setCell w5 _ _ = w6 at hg6 hq6 hB6 hRL6 hs6 ⊢
    have hnlt : nb < w6.heap.size := by rw [hs6.out]; exact hnlt5
    have hQ6 : QP T n m k L 2 w6 w6 b nb z8 P ((List.replicate L.length 0).set 0 (k : Int)) 1 := by
      have hfar : ∀ j (h : j < L.length), 1 ≤ j → ¬ L[j].toNat = m := by
        intro j hj h1 e
        have h2 := hLi.out L[j] (List.getElem_mem hj)
        have h3 : L[j] = L[0] := by rw [hm0.out]; omega
        have := (List.getElem_inj hLd.out).1 h3
        omega
      refine ⟨hq6.out, hg6.out, ?_, fun i => by rw [hPm.out]; split <;> omega, fun i hi => ?_, fun j hj h1 => ?_, Chg.refl _ _⟩
      · apply List.ext_getElem
        · simp
        · intro j h1 h2
          simp at h1
          rw [List.getElem_set, List.getElem_map, List.getElem_replicate, hPm.out]
          rcases Nat.eq_zero_or_pos j with rfl | hj
          · rw [if_pos rfl, if_pos (by rw [hm0.out, Int.toNat_natCast])]
          · rw [if_neg (by omega), if_neg (hfar j h1 hj)]
      · rw [hPm.out, if_neg]
        rintro rfl
        have := hme'.out
        rw [Int.toNat_natCast] at this
        rw [this] at hi; cases hi
      · rw [hPm.out, if_neg (hfar j hj h1)]
    replace hQ6 := Lib.hid hQ6
    clear hg6 hq6 hs6 hPm
    obtain ⟨p, hpk⟩ : ∃ p, p = k := ⟨_, rfl⟩
    subst hpk
    go_wp2
    go_loopw [14] (fun i wr => ∃ (k : Nat) (H P G : List Int), 1 ≤ k ∧ k ≤ L.length ∧ k ≤ l.length + 1 ∧ i = .int .i64 k ∧ QP T n m p L 2 w6 wr b nb H P G k) (fun i _ => L.length - (intOf i).toNat)
    case atStart => exact ⟨1, _, _, _, by omega, by omega, by omega, rfl, hQ6.out⟩
    case round =>
      obtain ⟨k, H, P, G, hk1, hk, hkl, rfl, hQ⟩ := hrel
      clear hQ6
      have hGl : G.length = L.length := by rw [hQ.e]; simp
      have hbel := Lib.hid (hB6.out.trans (hQ.chg.below hB6.out.size fun j hj => by rcases hj with rfl | rfl <;> omega))
      have hRr := hRL6.out.chg hQ.chg (fun j hj => by
        have : gL = j := by injection hj
        subst this
        rintro (h | h) <;> omega)
      by_cases hlt : k < L.length
      · by_cases hlt2 : k ≤ l.length
        · obtain ⟨j, hj⟩ : ∃ j, k = j + 1 := ⟨k - 1, by omega⟩
          have hjI : (k : Int) - 1 = (j : Int) := by omega
          have hjl : j < l.length := by omega
          obtain ⟨gx, ox, rfl, hc⟩ := ha.out (by omega)
          have hck := hbel.out.cell (p := ⟨gx, ox + j, none⟩) (cell_lt (hc j hjl))
          rw [hc j hjl] at hck
          obtain ⟨hI1, hI2⟩ := hI.out _ (List.getElem_mem hjl)
          clear hc
          generalize l[j] = x at hck hI1 hI2
          have tb1 := Int.tmod_lt_of_pos x (show (0 : Int) < 30 by omega)
          have tb2 := Int.lt_tmod_of_pos x (show (0 : Int) < 30 by omega)
          have hfx := tmod_fix x 30 (by omega)
          obtain ⟨Y, hY⟩ : ∃ Y, x % 30 = Y := ⟨_, rfl⟩
          rw [hY] at hfx
          have hY0 : 0 ≤ Y ∧ Y ≤ 29 := by omega
          replace hY := Lib.hid hY
          replace hj := Lib.hid hj
          obtain ⟨_, _, heq, _, _, hLx⟩ := hRr
          injection heq with q1 q2 q3
          subst q3
          obtain ⟨gg, oo, e1, hLx⟩ := hLx (by omega)
          rw [e1] at q1
          injection q1 with q1; injection q1 with q1 q4; subst q1 q4
          have hLk := hLx k hlt
          obtain ⟨hhas, hi1, hi7⟩ := hLi.out _ (List.getElem_mem hlt)
          obtain ⟨id, hid⟩ : ∃ id : Nat, L[k] = (id : Int) := ⟨L[k].toNat, by omega⟩
          obtain ⟨s1, s2, s3, s4, s5⟩ := set_facts (Y := Y) hLd.out hLi.out hQ.q.2.2 hlt hid hY0.1 hQ.h0 hQ.hz hQ.left
          rw [hid] at hLk hhas hi1 hi7
          have hhas' : Hid (hasT (T : Int).toNat (id : Int) = true) := Lib.hid (by rw [Int.toNat_natCast]; exact hhas)
          have hkG : k < G.length := by omega
          have hnb' : nb < wr.heap.size := at_lt hQ.g
          replace hid := Lib.hid hid
          replace s1 := Lib.hid s1
          replace s2 := Lib.hid s2
          replace s3 := Lib.hid s3
          replace s4 := Lib.hid s4
          replace s5 := Lib.hid s5
          replace hQ := Lib.hid hQ
          clear hLx hhas
          go_wp2_with fail
          refine (qAck_yes b n T m H P p id 0 Y _ hQ.out.q (by omega) hhas'.out (by omega) (by omega) (by omega) (by omega)).mono ?_
          rintro r w7 ⟨rfl, hq7, hc7⟩
          have hg7 := hQ.out.g.chg hc7 (fun e => by have : nb = b := e; omega)
          have hcg7 := hQ.out.chg.more hc7 (fun i hi => .inl (.inl hi))
          clear hLk hck hfx tb1 tb2 hjI
          by_cases hYp : Y ≤ p
          · have ea : ackP P id Y p = P.set id Y := by rw [ackP, if_pos hYp, s5.out]
            rw [ea] at hq7
            have hgc := hg7.cell hkG
            have hgz := free_at hg7 k
            have hnb7 := at_lt hg7
            have hg8 := hg7.set k Y
            have hcs : Chg (fun j => j = nb) w7 (w7.setCell ⟨nb, k, none⟩ (.int .i64 Y)) := chg_set (Chg.refl _ _) rfl
            have hQ8 : QP T n m p L 2 w6 (w7.setCell ⟨nb, k, none⟩ (.int .i64 Y)) b nb (H.set id (max (H.getD id 0) 0)) (P.set id Y) (G.set k Y) (k + 1) :=
              ⟨hq7.chg hcs (fun e => by have : b = nb := e; omega), hg8, by rw [hQ.out.e]; exact s1.out, s2.out, s3.out, s4.out, hcg7.more hcs (fun i hi => .inl (.inr hi))⟩
            replace hQ8 := Lib.hid hQ8
            clear hq7 hc7 hcg7 hg8 hcs ea
            replace hg7 := Lib.hid hg7
            go_wp2
            go_roundw
            case rel => exact ⟨k + 1, H.set id (max (H.getD id 0) 0), P.set id Y, G.set k Y, by omega, by omega, by omega, by go_num, hQ8.out⟩
            case measure => simp [intOf]; omega
          · have ea : ackP P id Y p = P := by rw [ackP, if_neg hYp]
            rw [ea] at hq7
            have hQ8 : QP T n m p L 2 w6 w7 b nb (H.set id (max (H.getD id 0) 0)) P G (k + 1) :=
              ⟨hq7, hg7, hQ.out.e, hQ.out.h0, hQ.out.hz, fun j hj hkj => hQ.out.left j hj (by omega), hcg7⟩
            replace hQ8 := Lib.hid hQ8
            clear hq7 hc7 hcg7 hg7 ea
            go_wp2
            go_roundw
            case rel => exact ⟨k + 1, H.set id (max (H.getD id 0) 0), P, G, by omega, by omega, by omega, by go_num, hQ8.out⟩
            case measure => simp [intOf]; omega
        · have hc := most_count hm.out hQ.q.2.2 hQ.h0 hQ.hz
          rw [hL.out, ← hQ.e] at hc
          obtain ⟨hc1, hc2, hc3⟩ := hc
          have hqh := Lib.hid hQ.q
          have hgh := Lib.hid hQ.g
          have hQh := Lib.hid hQ
          clear hQ hRr
          go_wp2_with fail
          refine (qProbe_any b n T m H P p _ hqh.out (by omega) (by omega)).mono ?_
          rintro r w6 ⟨rfl, hb6⟩
          rw [Int.toNat_natCast]
          have hg6 : gO w6 nb G 2 := at_below hgh.out hb6
          have hB6 := Lib.hid (hbel.out.trans (hb6.mono hbel.out.size))
          generalize medS P n = c at hc1 hc2 hc3 ⊢
          obtain ⟨S, hS⟩ : ∃ S, G.countP (fun x => decide (c ≤ x)) = S := ⟨_, rfl⟩
          obtain ⟨M, hM2⟩ : ∃ M, G.countP (fun x => decide (c < x)) = M := ⟨_, rfl⟩
          rw [hS] at hc1
          rw [hM2] at hc2
          have hnl := at_lt hg6
          replace hg6 := Lib.hid hg6
          replace hS := Lib.hid hS
          replace hM2 := Lib.hid hM2
          clear hb6 hqh hgh
          go_wp2
          go_loop [17, 18, 19] (fun s t i => ∃ k : Nat, k ≤ G.length ∧ i = .int .i64 k ∧ s = .int .i64 (((G.take k).countP (fun x => decide (c ≤ x)) : Nat) : Int) ∧ t = .int .i64 (((G.take k).countP (fun x => decide (c < x)) : Nat) : Int)) (fun _ _ i => G.length - (intOf i).toNat)
          case atStart => exact ⟨0, Nat.zero_le _, rfl, rfl, rfl⟩
          case round =>
            obtain ⟨j, hj, rfl, rfl, rfl⟩ := hrel
            have hlS := List.countP_le_length (p := fun x => decide (c ≤ x)) (l := G.take j)
            have hlM := List.countP_le_length (p := fun x => decide (c < x)) (l := G.take j)
            rw [List.length_take] at hlS hlM
            by_cases hjl : j < G.length
            · have hgc := hg6.out.cell hjl
              have cS := count_take hjl (fun x => decide (c ≤ x))
              have cM := count_take hjl (fun x => decide (c < x))
              have hjL : j < L.length := by omega
              generalize G[j] = y at hgc cS cM
              generalize (G.take j).countP (fun x => decide (c ≤ x)) = s0 at hlS cS ⊢
              generalize (G.take j).countP (fun x => decide (c < x)) = t0 at hlM cM ⊢
              replace cS := Lib.hid cS
              replace cM := Lib.hid cM
              by_cases h1 : c ≤ y
              · by_cases h2 : c < y
                · have a1 : decide (c ≤ y) = true := by simpa using h1
                  have a2 : decide (c < y) = true := by simpa using h2
                  have b1 := cS.out
                  have b2 := cM.out
                  simp only [a1, a2, if_true] at b1 b2
                  replace b1 := Lib.hid b1
                  replace b2 := Lib.hid b2
                  go_wp2
                  go_round
                  case rel => exact ⟨j + 1, by omega, by go_num, by rw [b1.out]; go_num, by rw [b2.out]; go_num⟩
                  case measure => simp [intOf]; omega
                · have a1 : decide (c ≤ y) = true := by simpa using h1
                  have a2 : decide (c < y) = false := by simpa using h2
                  have b1 := cS.out
                  have b2 := cM.out
                  simp only [a1, a2, if_true, Bool.false_eq_true, if_false, Nat.add_zero] at b1 b2
                  replace b1 := Lib.hid b1
                  replace b2 := Lib.hid b2
                  go_wp2
                  go_round
                  case rel => exact ⟨j + 1, by omega, by go_num, by rw [b1.out]; go_num, by rw [b2.out]⟩
                  case measure => simp [intOf]; omega
              · have h2 : ¬ c < y := by omega
                have a1 : decide (c ≤ y) = false := by simpa using h1
                have a2 : decide (c < y) = false := by simpa using h2
                have b1 := cS.out
                have b2 := cM.out
                simp only [a1, a2, Bool.false_eq_true, if_false, Nat.add_zero] at b1 b2
                replace b1 := Lib.hid b1
                replace b2 := Lib.hid b2
                go_wp2
                go_round
                case rel => exact ⟨j + 1, by omega, by go_num, by rw [b1.out], by rw [b2.out]⟩
                case measure => simp [intOf]; omega
            · obtain rfl : j = G.length := by omega
              rw [List.take_length, hS.out, hM2.out]
              have hq2 : (n : Int).tdiv 2 = ((n / 2 : Nat) : Int) := by rw [Int.tdiv_eq_ediv_of_nonneg (by omega)]; omega
              have d1 : n / 2 < S := by omega
              have d2 : M ≤ n / 2 := by omega
              clear hlS hlM hS hM2 hc1 hc2
              go_wp2
              go_ret
              exact ⟨ret_bool (by simp <;> omega), hB6.out⟩
      · have hc := most_count hm.out hQ.q.2.2 hQ.h0 hQ.hz
        rw [hL.out, ← hQ.e] at hc
        obtain ⟨hc1, hc2, hc3⟩ := hc
        have hqh := Lib.hid hQ.q
        have hgh := Lib.hid hQ.g
        have hQh := Lib.hid hQ
        clear hQ hRr
        go_wp2_with fail
        refine (qProbe_any b n T m H P p _ hqh.out (by omega) (by omega)).mono ?_
        rintro r w6 ⟨rfl, hb6⟩
        rw [Int.toNat_natCast]
        have hg6 : gO w6 nb G 2 := at_below hgh.out hb6
        have hB6 := Lib.hid (hbel.out.trans (hb6.mono hbel.out.size))
        generalize medS P n = c at hc1 hc2 hc3 ⊢
        obtain ⟨S, hS⟩ : ∃ S, G.countP (fun x => decide (c ≤ x)) = S := ⟨_, rfl⟩
        obtain ⟨M, hM2⟩ : ∃ M, G.countP (fun x => decide (c < x)) = M := ⟨_, rfl⟩
        rw [hS] at hc1
        rw [hM2] at hc2
        have hnl := at_lt hg6
        replace hg6 := Lib.hid hg6
        replace hS := Lib.hid hS
        replace hM2 := Lib.hid hM2
        clear hb6 hqh hgh
        go_wp2
        go_loop [17, 18, 19] (fun s t i => ∃ k : Nat, k ≤ G.length ∧ i = .int .i64 k ∧ s = .int .i64 (((G.take k).countP (fun x => decide (c ≤ x)) : Nat) : Int) ∧ t = .int .i64 (((G.take k).countP (fun x => decide (c < x)) : Nat) : Int)) (fun _ _ i => G.length - (intOf i).toNat)
        case atStart => exact ⟨0, Nat.zero_le _, rfl, rfl, rfl⟩
        case round =>
          obtain ⟨j, hj, rfl, rfl, rfl⟩ := hrel
          have hlS := List.countP_le_length (p := fun x => decide (c ≤ x)) (l := G.take j)
          have hlM := List.countP_le_length (p := fun x => decide (c < x)) (l := G.take j)
          rw [List.length_take] at hlS hlM
          by_cases hjl : j < G.length
          · have hgc := hg6.out.cell hjl
            have cS := count_take hjl (fun x => decide (c ≤ x))
            have cM := count_take hjl (fun x => decide (c < x))
            have hjL : j < L.length := by omega
            generalize G[j] = y at hgc cS cM
            generalize (G.take j).countP (fun x => decide (c ≤ x)) = s0 at hlS cS ⊢
            generalize (G.take j).countP (fun x => decide (c < x)) = t0 at hlM cM ⊢
            replace cS := Lib.hid cS
            replace cM := Lib.hid cM
            by_cases h1 : c ≤ y
            · by_cases h2 : c < y
              · have a1 : decide (c ≤ y) = true := by simpa using h1
                have a2 : decide (c < y) = true := by simpa using h2
                have b1 := cS.out
                have b2 := cM.out
                simp only [a1, a2, if_true] at b1 b2
                replace b1 := Lib.hid b1
                replace b2 := Lib.hid b2
                go_wp2
                go_round
                case rel => exact ⟨j + 1, by omega, by go_num, by rw [b1.out]; go_num, by rw [b2.out]; go_num⟩
                case measure => simp [intOf]; omega
              · have a1 : decide (c ≤ y) = true := by simpa using h1
                have a2 : decide (c < y) = false := by simpa using h2
                have b1 := cS.out
                have b2 := cM.out
                simp only [a1, a2, if_true, Bool.false_eq_true, if_false, Nat.add_zero] at b1 b2
                replace b1 := Lib.hid b1
                replace b2 := Lib.hid b2
                go_wp2
                go_round
                case rel => exact ⟨j + 1, by omega, by go_num, by rw [b1.out]; go_num, by rw [b2.out]⟩
                case measure => simp [intOf]; omega
            · have h2 : ¬ c < y := by omega
              have a1 : decide (c ≤ y) = false := by simpa using h1
              have a2 : decide (c < y) = false := by simpa using h2
              have b1 := cS.out
              have b2 := cM.out
              simp only [a1, a2, Bool.false_eq_true, if_false, Nat.add_zero] at b1 b2
              replace b1 := Lib.hid b1
              replace b2 := Lib.hid b2
              go_wp2
              go_round
              case rel => exact ⟨j + 1, by omega, by go_num, by rw [b1.out], by rw [b2.out]⟩
              case measure => simp [intOf]; omega
          · obtain rfl : j = G.length := by omega
            rw [List.take_length, hS.out, hM2.out]
            have hq2 : (n : Int).tdiv 2 = ((n / 2 : Nat) : Int) := by rw [Int.tdiv_eq_ediv_of_nonneg (by omega)]; omega
            have d1 : n / 2 < S := by omega
            have d2 : M ≤ n / 2 := by omega
            clear hlS hlM hS hM2 hc1 hc2
            go_wp2
            go_ret
            exact ⟨ret_bool (by simp <;> omega), hB6.out⟩

/-! the row's step, written out by law.py -/
set_option maxRecDepth 100000 in
theorem lifted (os : Os) (started : os.Started) (H : Type) (enc : TypeId × Value → H) :
    ReturnsInHanded {} Try.checked os 11 .any (Rows.quorumProbesSpec.pre6 enc Try.prog Try.f11 Rows.quorumProbesRow.domain false) (Rows.quorumProbesSpec.post enc Try.prog Try.f11 false true false false) := by
  refine returnsInHanded_of_change (C := Try.checked) own started (by kernel_rfl) Try.func11
    (ChangeSpec.witness6 (enc := enc) (C := Try.checked) false ⟨#[], #[.int .i64 0, .int .i64 0, .int .i64 0, .slice none 0 0], []⟩ 8 (by kernel_rfl) (by kernel_rfl) (by kernel_rfl) (by kernel_rfl)) ?_
  intro W base args ds gs before hval0 hW hcnd _
  have hval : ∀ (j : Nat) t v, Try.f11.params[j]? = some t → args[j]? = some v → Value.okWide Try.prog W .any base t v := hval0
  have hW' := hW
  obtain ⟨p, q, hA0, hV, rfl, hfz, hnd⟩ := hW
  have hA : DataW.TrodAll enc Try.prog W 0 (fun _ => true) true Try.f11.params.toList args.toList ds p := hA0
  rw [Try.params11] at hA hval
  obtain ⟨v0, vs0, d0, ds0, p0, q0, hargs, rfl, rfl, h0, r0⟩ := trodAll_cons hA
  obtain ⟨v1, vs1, d1, ds1, p1, q1, rfl, rfl, rfl, h1, r1⟩ := trodAll_cons r0
  obtain ⟨v2, vs2, d2, ds2, p2, q2, rfl, rfl, rfl, h2, r2⟩ := trodAll_cons r1
  obtain ⟨v3, vs3, d3, ds3, p3, q3, rfl, rfl, rfl, h3, r3⟩ := trodAll_cons r2
  obtain ⟨rfl, rfl, rfl⟩ := trodAll_nil r3
  obtain rfl : args = #[v0, v1, v2, v3] := by cases args; simp_all
  obtain ⟨rfl, rfl⟩ := trodVars_none hV
  have k0 := h0
  have lt0 : ∀ x ∈ p0, x.block < W.heap.size := by obtain ⟨m, hm⟩ := k0; exact DataW.trod_lt m _ _ _ hm
  have k1 := h1
  have lt1 : ∀ x ∈ p1, x.block < W.heap.size := by obtain ⟨m, hm⟩ := k1; exact DataW.trod_lt m _ _ _ hm
  have k2 := h2
  have lt2 : ∀ x ∈ p2, x.block < W.heap.size := by obtain ⟨m, hm⟩ := k2; exact DataW.trod_lt m _ _ _ hm
  have k3 := h3
  have lt3 : ∀ x ∈ p3, x.block < W.heap.size := by obtain ⟨m, hm⟩ := k3; exact DataW.trod_lt m _ _ _ hm
  obtain ⟨a0, rfl, rfl, rfl, w0⟩ := open_int Try.underlying3 (hval 0 3 v0 rfl rfl) h0
  have w0 := bounds_i64 w0
  obtain ⟨a1, rfl, rfl, rfl, w1⟩ := open_int Try.underlying3 (hval 1 3 v1 rfl rfl) h1
  have w1 := bounds_i64 w1
  obtain ⟨a2, rfl, rfl, rfl, w2⟩ := open_int Try.underlying3 (hval 2 3 v2 rfl rfl) h2
  have w2 := bounds_i64 w2
  obtain ⟨l3, w3, b3⟩ := rdI_open Try.underlying62 Try.underlying3 (by kernel_rfl) (hval 3 62 v3 rfl rfl) h3
  clear hA0 hval0
  simp only [List.append_nil] at hW'
  refine (walk a0 a1 a2 v3 l3 W w0 w1 w2 w3 b3).mono fun e W' ⟨he, bel⟩ => ?_
  subst he
  exact ⟨_, rfl, _, _, _, [], _, [], hW', trodAll_mk1 (shut_bool Try.underlying4 _), (trodAll_cons_mk (Below.trod laidOut (by kernel_rfl) (of_decide_eq_true (by kernel_rfl)) k0 bel lt0) (trodAll_cons_mk (Below.trod laidOut (by kernel_rfl) (of_decide_eq_true (by kernel_rfl)) k1 bel lt1) (trodAll_cons_mk (Below.trod laidOut (by kernel_rfl) (of_decide_eq_true (by kernel_rfl)) k2 bel lt2) (trodAll_cons_mk (Below.trod laidOut (by kernel_rfl) (of_decide_eq_true (by kernel_rfl)) k3 bel lt3) trodAll_mk0)))), rfl, bel.frame _, fun h => by cases h⟩

theorem over : Rows.quorumProbesRow.holds Try.pinned (OpenSpec.ofChange Rows.quorumProbesSpec) :=
  OpenClaim.holds_of_wide 11 Try.f11 rfl rfl rfl rfl rfl rfl rfl ⟨rfl, rfl, rfl, rfl, rfl⟩ rfl rfl rfl rfl rfl (by kernel_rfl) Try.func11 (by kernel_rfl)
    (of_decide_eq_true (by kernel_rfl)) (by unfold Func.isWrapper; first | (rw [if_pos (by decide +kernel)]; kernel_rfl) | (rw [if_neg (by decide +kernel)]; exact ⟨rfl, rfl⟩))
    (fun os started H enc _ => lifted os started H enc)

theorem proved : Rows.QuorumProbesSaid := over
end Go.Proofs.Ytimffflhfaiakaa.lawQuorumProbes
