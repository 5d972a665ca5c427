/- An install or an append of an elder view than it promised changes nothing. -/
import Derived.Test.YtphlcbbdpmkipaaGreatPkO
namespace Go.Proofs.YtphlcbbdpmkipaaGreat.lawNodeLate
open Go.ChangeShapes Go.WideShapes Go.ChangeAt Go.RowKit
set_option linter.unusedVariables false

def lateM (inst : Bool) (n p me view : Int) (es : List Ent) : Ms := ⟨if inst then 4 else 5, p, me, 1, view, 0, if inst then ((2 ^ n.toNat - 1 : Nat) : Int) else 0, 0, es, 0, 0, 0, false⟩
theorem all_lt {n : Int} (h3 : 3 ≤ n) (h7 : n ≤ 7) : 0 ≤ ((2 ^ n.toNat - 1 : Nat) : Int) ∧ ((2 ^ n.toNat - 1 : Nat) : Int) < 128 := by
  have hp := pow_n_le h3 h7
  have h1 : ((2 ^ n.toNat : Nat) : Int) = (2 : Int) ^ n.toNat := by simp
  have h2 := Nat.two_pow_pos n.toNat
  omega
theorem late_may (inst : Bool) (n p me view : Int) (A : List Ent) (h3 : 3 ≤ n) (h7 : n ≤ 7) (p1 : 1 ≤ p) (p2 : p ≤ n) (m1 : 1 ≤ me) (m2 : me ≤ 3) (hne : p ≠ me) (v1 : 1 ≤ view) (v2 : view ≤ 60) : MayM (lateM inst n p me view (logE A)) := by
  have hp := pow_n_le h3 h7
  have hm : (0 : Int) ≤ ((2 ^ n.toNat - 1 : Nat) : Int) ∧ ((2 ^ n.toNat - 1 : Nat) : Int) ≤ 127 := by
    have h1 : ((2 ^ n.toNat : Nat) : Int) = (2 : Int) ^ n.toNat := by simp
    have h2 := Nat.two_pow_pos n.toNat
    omega
  have hl := logE_len A
  cases inst
  · exact { k1 := by show (1 : Int) ≤ 5; decide, k2 := by show (5 : Int) ≤ 13; decide, f1 := p1, f2 := by show p ≤ 7; omega, t1 := m1, t2 := by show me ≤ 7; omega, ft := hne, b1 := by show (1 : Int) ≤ 1; omega, b2 := by show (1 : Int) ≤ 1099511627776; omega, v1 := by show 0 ≤ view; omega, v2 := by show view ≤ 1099511627776; omega,
            l1 := by show (0 : Int) ≤ 0; omega, l2 := by show (0 : Int) ≤ 1099511627776; omega, n1 := by show (0 : Int) ≤ 0; omega, n2 := by show (0 : Int) ≤ 1099511627776; omega, c1 := by show (0 : Int) ≤ 0; omega, c2 := by show (0 : Int) ≤ 1099511627776; omega,
            m1 := by show (0 : Int) ≤ 0; omega, m2 := by show (0 : Int) ≤ 127; omega, p1 := by show (0 : Int) ≤ 0; omega, p2 := by show (0 : Int) ≤ 60; omega, o1 := by show (0 : Int) ≤ 0; omega, o2 := by show (0 : Int) ≤ 60; omega, e1 := hl, e2 := logE_may A }
  · exact { k1 := by show (1 : Int) ≤ 4; decide, k2 := by show (4 : Int) ≤ 13; decide, f1 := p1, f2 := by show p ≤ 7; omega, t1 := m1, t2 := by show me ≤ 7; omega, ft := hne, b1 := by show (1 : Int) ≤ 1; omega, b2 := by show (1 : Int) ≤ 1099511627776; omega, v1 := by show 0 ≤ view; omega, v2 := by show view ≤ 1099511627776; omega,
            l1 := by show (0 : Int) ≤ 0; omega, l2 := by show (0 : Int) ≤ 1099511627776; omega, n1 := by show (0 : Int) ≤ 0; omega, n2 := by show (0 : Int) ≤ 1099511627776; omega, c1 := by show (0 : Int) ≤ 0; omega, c2 := by show (0 : Int) ≤ 1099511627776; omega,
            m1 := hm.1, m2 := hm.2, p1 := by show (0 : Int) ≤ 0; omega, p2 := by show (0 : Int) ≤ 60; omega, o1 := by show (0 : Int) ≤ 0; omega, o2 := by show (0 : Int) ≤ 60; omega, e1 := hl, e2 := logE_may A }

set_option maxRecDepth 100000 in
set_option maxHeartbeats 16000000 in
theorem walk (mm n view promise : Int) (inst : Bool) (va : Value) (A : List Ent) (w : World) (hmm : w.cell? ⟨0, 0, none⟩ = some (.int .i64 mm)) (hn : I64 n) (hvi : I64 view) (hpr : I64 promise) (hr : rdE w va A) (hd : ∀ e ∈ A, e.data.size ≤ 9223372036854775807) :
    Calls Tryz.prog 8 #[.int .i64 n, .int .i64 view, .int .i64 promise, .bool inst, va] w fun r w' => r = .returned (.bool true) ∧ Below w.heap.size w w' := by
  have hbeg := Lib.hid (b25_any w)
  clear hmm hd
  have hrA := Lib.hid hr
  obtain ⟨aa, acap, rfl, hm, hM, ha⟩ := hr
  unfold maxLen at hM
  clear ha
  obtain ⟨hn1, hn2⟩ := hn
  obtain ⟨hvi1, hvi2⟩ := hvi
  obtain ⟨hpr1, hpr2⟩ := hpr
  by_cases g : 3 ≤ n ∧ n ≤ 7 ∧ 1 ≤ view ∧ view < promise ∧ promise ≤ 60 ∧ A.length ≤ 10
  case neg =>
    replace g := Lib.hid g
    go_enter Tryz.func8, Tryz.ntmps8
    go_wp2_with fail
    refine hbeg.out.mono ?_
    rintro r w1 ⟨rfl, hb1⟩
    replace hb1 := Lib.hid hb1
    by_cases g1 : n < 3
    · go_wp2
      go_ret
      exact ⟨rfl, hb1.out⟩
    by_cases g2 : n > 7
    · go_wp2
      go_ret
      exact ⟨rfl, hb1.out⟩
    by_cases g3 : view < 1
    · go_wp2
      go_ret
      exact ⟨rfl, hb1.out⟩
    by_cases g4 : promise ≤ view
    · go_wp2
      go_ret
      exact ⟨rfl, hb1.out⟩
    by_cases g5 : promise > 60
    · go_wp2
      go_ret
      exact ⟨rfl, hb1.out⟩
    by_cases g6 : (A.length : Int) > 10
    · go_wp2
      go_ret
      exact ⟨rfl, hb1.out⟩
    exact absurd (by omega) g.out
  obtain ⟨n3, n7, v1, v2, v3, la⟩ := g
  have g1 : ¬ n < 3 := by omega
  have g2 : ¬ n > 7 := by omega
  have g3 : ¬ view < 1 := by omega
  have g4 : ¬ promise ≤ view := by omega
  have g5 : ¬ promise > 60 := by omega
  have g6 : ¬ (A.length : Int) > 10 := by omega
  obtain ⟨p, hp⟩ : ∃ p, p = decT view n := ⟨_, rfl⟩
  obtain ⟨q, hq⟩ : ∃ q, q = decT promise n := ⟨_, rfl⟩
  have hdp : decT view n = 1 + (view - 1) % n := if_neg (by omega)
  have hdq : decT promise n = 1 + (promise - 1) % n := if_neg (by omega)
  have hp1 : 1 ≤ p ∧ p ≤ n := by
    have h1 : 0 ≤ (view - 1) % n := Int.emod_nonneg _ (by omega)
    have h2 : (view - 1) % n < n := Int.emod_lt_of_pos _ (by omega)
    rw [hp, hdp]; omega
  have hq1 : 1 ≤ q ∧ q ≤ n := by
    have h1 : 0 ≤ (promise - 1) % n := Int.emod_nonneg _ (by omega)
    have h2 : (promise - 1) % n < n := Int.emod_lt_of_pos _ (by omega)
    rw [hq, hdq]; omega
  have hPc := Lib.hid (fun wx => rdecider_any view n wx (by omega) (by omega))
  have hQc := Lib.hid (fun wx => rdecider_any promise n wx (by omega) (by omega))
  rw [← hp] at hPc
  rw [← hq] at hQc
  replace hp := Lib.hid hp
  replace hq := Lib.hid hq
  clear hdp hdq
  go_enter Tryz.func8, Tryz.ntmps8
  go_wp2_with fail
  refine hbeg.out.mono ?_
  rintro r w1 ⟨rfl, hb1⟩
  clear hbeg
  go_wp2_with fail
  refine (hPc.out _).mono ?_
  rintro r wx ⟨rfl, rfl⟩
  go_wp2_with fail
  refine (hQc.out _).mono ?_
  rintro r wx ⟨rfl, rfl⟩
  have hb1' := Lib.hid hb1
  clear hb1
  go_wp2
  go_loopw [14] (fun i wr => ∃ me : Int, i = .int .i64 me ∧ 1 ≤ me ∧ me ≤ 3 ∧ (2 ≤ me → p = 1 ∨ q = 1) ∧ (3 ≤ me → p = 2 ∨ q = 2) ∧ Below w.heap.size w wr) (fun i _ => 4 - (intOf i).toNat)
  case atStart => exact ⟨1, rfl, by omega, by omega, fun h => by omega, fun h => by omega, hb1'.out⟩
  case round =>
    obtain ⟨me, rfl, m1, m3, hm2, hm3, hbr⟩ := hrel
    replace hbr := Lib.hid hbr
    clear hb1'
    by_cases h1 : me = p
    · by_cases h2 : me = 3
      · exfalso; omega
      go_wp2
      go_roundw
      case rel => exact ⟨me + 1, by go_num, by omega, by omega, fun h => by omega, fun h => by omega, hbr.out⟩
      case measure => simp [intOf]; omega
    · by_cases h2 : me = q
      · by_cases h4 : me = 3
        · exfalso; omega
        go_wp2
        go_roundw
        case rel => exact ⟨me + 1, by go_num, by omega, by omega, fun h => by omega, fun h => by omega, hbr.out⟩
        case measure => simp [intOf]; omega
      · have h1' : (me == p) = false := by simpa using h1
        have h2' : (me == q) = false := by simpa using h2
        have hb1 := hbr.out
        have hsz1 := hb1.size
        obtain ⟨W1, hW1⟩ : ∃ W, W = wr.alloc (.cells #[.int .i64 0, .int .i64 0] 26) := ⟨_, rfl⟩
        have hB1 : Below w.heap.size w W1 := hW1 ▸ hb1.alloc hsz1 _
        have hd1 : dkO W1 wr.heap.size 0 #[.int .i64 0, .int .i64 0] 26 0 0 := hW1 ▸ dkO_new wr 0
        obtain ⟨dk, hdk⟩ : ∃ dk, dk = wr.heap.size := ⟨_, rfl⟩
        rw [← hdk] at hd1
        have hdl := hdk ▸ hsz1
        replace hdk := Lib.hid hdk
        replace hW1 := Lib.hid hW1
        clear hsz1 hb1
        have hMk := Lib.hid (pxMake W1 me n 0 0 dk _ _ w hdl hB1 hd1 n3 n7 (by omega) (by omega) (by omega) (by omega) (by omega) (by omega))
        obtain ⟨s', r', hh, hI', hto, hge, hlt', hbare, hokh⟩ := pr_hear (pr_make me n n3 n7 (by omega) (by omega)) promise (by omega) (by omega) (Int.le_refl 0)
        obtain ⟨hmay, _, _⟩ := pr_may me n promise n3 n7 (by omega) (by omega) (by omega) (by omega) (by rw [← hq.out]; exact fun e => h2 e.symm)
        rw [← hq.out] at hh hbare hokh hmay
        rw [Int.max_eq_right (by omega)] at hI'
        obtain ⟨S, hS0⟩ : ∃ S, S = Nd.make me n 1 0 := ⟨_, rfl⟩
        rw [show (0 : Int) + 1 = 1 from rfl, ← hS0] at hMk
        rw [← hS0] at hh hbare hokh
        have hkn : S.knows = true := by rw [hS0]; rfl
        replace hS0 := Lib.hid hS0
        replace hkn := Lib.hid hkn
        replace hmay := Lib.hid hmay
        replace hh := Lib.hid hh
        replace hI' := Lib.hid hI'
        replace hbare := Lib.hid hbare
        replace hokh := Lib.hid hokh
        replace hd1 := Lib.hid hd1
        replace hB1 := Lib.hid hB1
        replace hm2 := Lib.hid hm2
        replace hm3 := Lib.hid hm3
        clear hto hge hlt'
        go_upto_region 11 with (fail)
        rw [← hW1.out, ← hdk.out]
        go_wp2_with fail
        refine hMk.out.mono ?_
        rintro r w2 ⟨own2, b, rfl, p2, _, _⟩
        replace p2 := Lib.hid p2
        clear hMk
        go_wp2_with fail
        refine (from25_any _ _ _ _ _).mono ?_
        rintro r w4 ⟨rfl, hb4⟩
        obtain ⟨p4, _⟩ := p2.out.grow hb4
        have hcall := Lib.hid (hear25_any p4 (frM 1 q me promise) none 0 ⟨none, 0, rfl, Nat.le_refl _, Nat.zero_le _, fun h => absurd h (Nat.lt_irrefl 0)⟩ hmay.out s' [r']
              (fun v w1 q1 hr => by
                have e := pxHear q1 v (frM 1 q me promise) hr hmay.out (fun _ _ => hbare.out) (fun _ e => by rw [hkn.out] at e; cases e) (fun _ _ own1 w1 a sa sc hN hpe => xHears_prop 0 hN hokh.out (frM 1 q me promise) sa sc rfl (by simp) (by show 0 ≤ promise; omega) (by show promise ≤ 1099511627776; omega))
                rw [hh.out] at e
                exact e))
        clear p4 hb4
        go_wp2_with fail
        refine hcall.out.mono ?_
        rintro r w6 ⟨v6, own6, o6, rfl, p6, k6, q6, e6⟩
        obtain ⟨ad, cp, rfl, _⟩ := q6.len e6
        rw [List.length_singleton]
        have hrA6 := Lib.hid (hrA.out.grow p6.bel)
        replace p6 := Lib.hid p6
        clear hcall k6 q6 e6
        go_wp2_with fail
        refine (from25_any _ _ _ _ _).mono ?_
        rintro r w7 ⟨rfl, hb7⟩
        obtain ⟨p7, _⟩ := p6.out.grow hb7
        have hrA7 := Lib.hid (hrA6.out.grow hb7)
        replace p7 := Lib.hid p7
        clear hb7
        have hT := shl_all n n3 n7
        cases inst
        · obtain ⟨T, hT0⟩ : ∃ T, T = s'.heard_ (⟨5, p, me, 1, view, 0, 0, 0, logE A, 0, 0, 0, false⟩ : Ms) := ⟨_, rfl⟩
          obtain ⟨hl1, hl2, hl3, hl4⟩ := late_hear hI'.out (⟨5, p, me, 1, view, 0, 0, 0, logE A, 0, 0, 0, false⟩ : Ms) (.inr rfl) rfl rfl (by show 1 ≤ view; omega) (by show view < promise; omega)
          have hmay2 : MayM (⟨5, p, me, 1, view, 0, 0, 0, logE A, 0, 0, 0, false⟩ : Ms) := late_may false n p me view A n3 n7 hp1.1 hp1.2 (by omega) (by omega) (fun e => h1 e.symm) v1 (by omega)
          have hlen := logE_len A
          rw [← hT0] at hl1 hl4
          replace hT0 := Lib.hid hT0
          replace hl1 := Lib.hid hl1
          replace hl2 := Lib.hid hl2
          replace hl3 := Lib.hid hl3
          replace hl4 := Lib.hid hl4
          replace hmay2 := Lib.hid hmay2
          replace hlen := Lib.hid hlen
          go_upto_region 17 with (fail)
          obtain ⟨W8, hW8⟩ : ∃ W, W = w7.alloc (.cells #[.int .i64 5, .int .i64 p, .int .i64 me, .int .i64 1, .int .i64 view, .int .i64 0, .int .i64 0, .int .i64 0, .slice none 0 0, .int .i64 0, .int .i64 0, .int .i64 0, .bool false] 36) := ⟨_, rfl⟩
          have hB8 : Below w7.heap.size w7 W8 := hW8 ▸ (Below.refl _ _).alloc (Nat.le_refl _) _
          obtain ⟨mb, hmb⟩ : ∃ mb, mb = w7.heap.size := ⟨_, rfl⟩
          have hm8 : W8.heap[mb]? = some (.cells #[.int .i64 5, .int .i64 p, .int .i64 me, .int .i64 1, .int .i64 view, .int .i64 0, .int .i64 0, .int .i64 0, .slice none 0 0, .int .i64 0, .int .i64 0, .int .i64 0, .bool false] 36 (0, 0)) := hW8 ▸ hmb ▸ at_new _ _
          have lm8 := at_lt hm8
          rw [← hW8, ← hmb]
          replace hW8 := Lib.hid hW8
          replace hm8 := Lib.hid hm8
          replace hmb := Lib.hid hmb
          have hL := Lib.hid (r12Log_any _ A W8 (hrA7.out.grow hB8))
          replace hB8 := Lib.hid hB8
          clear hT
          go_wp2_with fail
          refine hL.out.mono ?_
          rintro r w9 ⟨v9, rfl, ho9, hb9⟩
          obtain ⟨sa, sc, rfl⟩ := ho9.rd.len
          have hm9 := at_below hm8.out hb9
          have lm9 := at_lt hm9
          have z8 := free_at hm9 8
          have x8 : w9.cell? ⟨mb, 8, none⟩ = some (.slice none 0 0) := cell_at hm9 8
          obtain ⟨W10, hW10⟩ : ∃ W, W = w9.setCell ⟨mb, 8, none⟩ (.slice sa (logE A).length sc) := ⟨_, rfl⟩
          have hm10 : W10.heap[mb]? = some (.cells #[.int .i64 5, .int .i64 p, .int .i64 me, .int .i64 1, .int .i64 view, .int .i64 0, .int .i64 0, .int .i64 0, .slice sa (logE A).length sc, .int .i64 0, .int .i64 0, .int .i64 0, .bool false] 36 (0, 0)) := hW10 ▸ set_at hm9
          obtain ⟨p10, _⟩ := p7.out.grow (w' := W10) (hW10 ▸ (hB8.out.trans (hb9.mono hB8.out.size)).setCell (by rw [hmb.out]; exact Nat.le_refl _) _)
          have ho10 : rdE W10 (.slice sa (logE A).length sc) (logE A) := hW10 ▸ (ho9.chg (chg_set (F := fun k => k = mb) (Chg.refl _ _) rfl) (fun k hk e => by have := (ho9.lt k hk).1; omega)).rd
          replace ho10 := Lib.hid ho10
          replace p10 := Lib.hid p10
          replace hm9 := Lib.hid hm9
          replace ho9 := Lib.hid ho9
          replace hb9 := Lib.hid hb9
          have hcall := Lib.hid (hear25_any p10.out (⟨5, p, me, 1, view, 0, 0, 0, logE A, 0, 0, 0, false⟩ : Ms) sa sc ho10.out hmay2.out T []
              (fun v w1 q1 hr => by
                have e := pxHear q1 v (⟨5, p, me, 1, view, 0, 0, 0, logE A, 0, 0, 0, false⟩ : Ms) hr hmay2.out (fun _ _ => hl3.out) (fun _ e => by rw [hI'.out.kn] at e; cases e) (fun _ _ own1 w1 a sa sc hN hpe => xHears_app 0 hN (by rw [← hT0.out]; exact hl4.out.ok) (⟨5, p, me, 1, view, 0, 0, 0, logE A, 0, 0, 0, false⟩ : Ms) sa sc rfl (by simp) hpe (by have := hlen.out; show (logE A).length ≤ 1000; omega) (by show (0 : Int) ≤ 0; omega) (by show (0 : Int) ≤ 1000; omega))
                rw [hl1.out] at e
                exact e))
          go_upto_region 18 with (fail)
          rw [← hW10]
          replace hW10 := Lib.hid hW10
          clear x8 z8 lm9 lm8 hL
          have m0 := cell_at hm10 0
          have m1 := cell_at hm10 1
          have m2 := cell_at hm10 2
          have m3 := cell_at hm10 3
          have m4 := cell_at hm10 4
          have m5 := cell_at hm10 5
          have m6 := cell_at hm10 6
          have m7 := cell_at hm10 7
          have m8 := cell_at hm10 8
          have m9 := cell_at hm10 9
          have m10 := cell_at hm10 10
          have m11 := cell_at hm10 11
          have m12 := cell_at hm10 12
          simp only [List.getElem?_toArray, List.getElem?_cons_zero, List.getElem?_cons_succ] at m0 m1 m2 m3 m4 m5 m6 m7 m8 m9 m10 m11 m12
          have lm10 := at_lt hm10
          replace hm10 := Lib.hid hm10
          go_wp2_with fail
          refine hcall.out.mono ?_
          rintro r w11 ⟨v11, own11, o11, rfl, p11, k11, q11, e11⟩
          obtain ⟨ad11, cp11, rfl, _⟩ := q11.len e11
          rw [List.length_nil]
          clear hcall k11 q11 e11 m0 m1 m2 m3 m4 m5 m6 m7 m8 m9 m10 m11 m12 lm10
          have hLa := pxLast p11
          rw [hl4.out.last] at hLa
          replace hLa := Lib.hid hLa
          have hLo := Lib.hid (pxLog p11 (by rw [hl4.out.bare.L]; simp))
          replace p11 := Lib.hid p11
          go_wp2_with fail
          refine hLa.out.mono ?_
          rintro r wx ⟨rfl, rfl⟩
          go_wp2_with fail
          refine hLo.out.mono ?_
          rintro r w12 ⟨v12, rfl, ho12, hb12⟩
          rw [hl4.out.bare.L] at ho12
          obtain ⟨a12, c12, rfl, _⟩ := rdE0 (show rdE w12 v12 [] from ho12.rd)
          obtain ⟨p12, _⟩ := p11.out.grow hb12
          have hD := pxDisk p12
          rw [hl4.out.dv] at hD
          replace hD := Lib.hid hD
          have hTo := Lib.hid (pxTold p12 (by rw [hl4.out.td]; simp))
          have hbel := Lib.hid p12.bel
          clear hLa hLo ho12 hb12 p12
          go_wp2_with fail
          refine hD.out.mono ?_
          rintro r wx ⟨rfl, rfl⟩
          go_wp2_with fail
          refine hTo.out.mono ?_
          rintro r w13 ⟨v13, rfl, ho13, hb13⟩
          rw [hl4.out.td] at ho13
          obtain ⟨a13, c13, rfl⟩ := (ho13.rd tdShp).len
          have hfin := Lib.hid (hbel.out.trans (hb13.mono hbel.out.size))
          clear ho13 hb13 hD hTo
          go_wp2
          go_ret
          exact ⟨rfl, hfin.out⟩
        · obtain ⟨T, hT0⟩ : ∃ T, T = s'.heard_ (⟨4, p, me, 1, view, 0, ((2 ^ n.toNat - 1 : Nat) : Int), 0, logE A, 0, 0, 0, false⟩ : Ms) := ⟨_, rfl⟩
          obtain ⟨hl1, hl2, hl3, hl4⟩ := late_hear hI'.out (⟨4, p, me, 1, view, 0, ((2 ^ n.toNat - 1 : Nat) : Int), 0, logE A, 0, 0, 0, false⟩ : Ms) (.inl rfl) rfl rfl (by show 1 ≤ view; omega) (by show view < promise; omega)
          have hmay2 : MayM (⟨4, p, me, 1, view, 0, ((2 ^ n.toNat - 1 : Nat) : Int), 0, logE A, 0, 0, 0, false⟩ : Ms) := late_may true n p me view A n3 n7 hp1.1 hp1.2 (by omega) (by omega) (fun e => h1 e.symm) v1 (by omega)
          have hlen := logE_len A
          rw [← hT0] at hl1 hl4
          replace hT0 := Lib.hid hT0
          replace hl1 := Lib.hid hl1
          replace hl2 := Lib.hid hl2
          replace hl3 := Lib.hid hl3
          replace hl4 := Lib.hid hl4
          replace hmay2 := Lib.hid hmay2
          replace hlen := Lib.hid hlen
          go_upto_region 17 with (fail)
          obtain ⟨W8, hW8⟩ : ∃ W, W = w7.alloc (.cells #[.int .i64 4, .int .i64 p, .int .i64 me, .int .i64 1, .int .i64 view, .int .i64 0, .int .i64 ((2 ^ n.toNat - 1 : Nat) : Int), .int .i64 0, .slice none 0 0, .int .i64 0, .int .i64 0, .int .i64 0, .bool false] 36) := ⟨_, rfl⟩
          have hB8 : Below w7.heap.size w7 W8 := hW8 ▸ (Below.refl _ _).alloc (Nat.le_refl _) _
          obtain ⟨mb, hmb⟩ : ∃ mb, mb = w7.heap.size := ⟨_, rfl⟩
          have hm8 : W8.heap[mb]? = some (.cells #[.int .i64 4, .int .i64 p, .int .i64 me, .int .i64 1, .int .i64 view, .int .i64 0, .int .i64 ((2 ^ n.toNat - 1 : Nat) : Int), .int .i64 0, .slice none 0 0, .int .i64 0, .int .i64 0, .int .i64 0, .bool false] 36 (0, 0)) := hW8 ▸ hmb ▸ at_new _ _
          have lm8 := at_lt hm8
          rw [← hW8, ← hmb]
          replace hW8 := Lib.hid hW8
          replace hm8 := Lib.hid hm8
          replace hmb := Lib.hid hmb
          have hL := Lib.hid (r12Log_any _ A W8 (hrA7.out.grow hB8))
          replace hB8 := Lib.hid hB8
          clear hT
          go_wp2_with fail
          refine hL.out.mono ?_
          rintro r w9 ⟨v9, rfl, ho9, hb9⟩
          obtain ⟨sa, sc, rfl⟩ := ho9.rd.len
          have hm9 := at_below hm8.out hb9
          have lm9 := at_lt hm9
          have z8 := free_at hm9 8
          have x8 : w9.cell? ⟨mb, 8, none⟩ = some (.slice none 0 0) := cell_at hm9 8
          obtain ⟨W10, hW10⟩ : ∃ W, W = w9.setCell ⟨mb, 8, none⟩ (.slice sa (logE A).length sc) := ⟨_, rfl⟩
          have hm10 : W10.heap[mb]? = some (.cells #[.int .i64 4, .int .i64 p, .int .i64 me, .int .i64 1, .int .i64 view, .int .i64 0, .int .i64 ((2 ^ n.toNat - 1 : Nat) : Int), .int .i64 0, .slice sa (logE A).length sc, .int .i64 0, .int .i64 0, .int .i64 0, .bool false] 36 (0, 0)) := hW10 ▸ set_at hm9
          obtain ⟨p10, _⟩ := p7.out.grow (w' := W10) (hW10 ▸ (hB8.out.trans (hb9.mono hB8.out.size)).setCell (by rw [hmb.out]; exact Nat.le_refl _) _)
          have ho10 : rdE W10 (.slice sa (logE A).length sc) (logE A) := hW10 ▸ (ho9.chg (chg_set (F := fun k => k = mb) (Chg.refl _ _) rfl) (fun k hk e => by have := (ho9.lt k hk).1; omega)).rd
          replace ho10 := Lib.hid ho10
          replace p10 := Lib.hid p10
          replace hm9 := Lib.hid hm9
          replace ho9 := Lib.hid ho9
          replace hb9 := Lib.hid hb9
          have hcall := Lib.hid (hear25_any p10.out (⟨4, p, me, 1, view, 0, ((2 ^ n.toNat - 1 : Nat) : Int), 0, logE A, 0, 0, 0, false⟩ : Ms) sa sc ho10.out hmay2.out T []
              (fun v w1 q1 hr => by
                have e := pxHear q1 v (⟨4, p, me, 1, view, 0, ((2 ^ n.toNat - 1 : Nat) : Int), 0, logE A, 0, 0, 0, false⟩ : Ms) hr hmay2.out (fun _ _ => hl3.out) (fun _ e => by rw [hI'.out.kn] at e; cases e) (fun _ _ own1 w1 a sa sc hN hpe => xHears_inst 0 hN (by rw [← hT0.out]; exact hl4.out.ok) (⟨4, p, me, 1, view, 0, ((2 ^ n.toNat - 1 : Nat) : Int), 0, logE A, 0, 0, 0, false⟩ : Ms) sa sc rfl (by simp) hpe (by have := hlen.out; show (logE A).length ≤ 1000; omega) (all_lt n3 n7) ⟨by show -9223372036854775808 ≤ view; omega, by show view ≤ 9223372036854775807; omega⟩ (by show (0 : Int) ≤ 0; omega) (by show (0 : Int) ≤ 1000; omega))
                rw [hl1.out] at e
                exact e))
          go_upto_region 18 with (fail)
          rw [← hW10]
          replace hW10 := Lib.hid hW10
          clear x8 z8 lm9 lm8 hL
          have m0 := cell_at hm10 0
          have m1 := cell_at hm10 1
          have m2 := cell_at hm10 2
          have m3 := cell_at hm10 3
          have m4 := cell_at hm10 4
          have m5 := cell_at hm10 5
          have m6 := cell_at hm10 6
          have m7 := cell_at hm10 7
          have m8 := cell_at hm10 8
          have m9 := cell_at hm10 9
          have m10 := cell_at hm10 10
          have m11 := cell_at hm10 11
          have m12 := cell_at hm10 12
          simp only [List.getElem?_toArray, List.getElem?_cons_zero, List.getElem?_cons_succ] at m0 m1 m2 m3 m4 m5 m6 m7 m8 m9 m10 m11 m12
          have lm10 := at_lt hm10
          replace hm10 := Lib.hid hm10
          go_wp2_with fail
          refine hcall.out.mono ?_
          rintro r w11 ⟨v11, own11, o11, rfl, p11, k11, q11, e11⟩
          obtain ⟨ad11, cp11, rfl, _⟩ := q11.len e11
          rw [List.length_nil]
          clear hcall k11 q11 e11 m0 m1 m2 m3 m4 m5 m6 m7 m8 m9 m10 m11 m12 lm10
          have hLa := pxLast p11
          rw [hl4.out.last] at hLa
          replace hLa := Lib.hid hLa
          have hLo := Lib.hid (pxLog p11 (by rw [hl4.out.bare.L]; simp))
          replace p11 := Lib.hid p11
          go_wp2_with fail
          refine hLa.out.mono ?_
          rintro r wx ⟨rfl, rfl⟩
          go_wp2_with fail
          refine hLo.out.mono ?_
          rintro r w12 ⟨v12, rfl, ho12, hb12⟩
          rw [hl4.out.bare.L] at ho12
          obtain ⟨a12, c12, rfl, _⟩ := rdE0 (show rdE w12 v12 [] from ho12.rd)
          obtain ⟨p12, _⟩ := p11.out.grow hb12
          have hD := pxDisk p12
          rw [hl4.out.dv] at hD
          replace hD := Lib.hid hD
          have hTo := Lib.hid (pxTold p12 (by rw [hl4.out.td]; simp))
          have hbel := Lib.hid p12.bel
          clear hLa hLo ho12 hb12 p12
          go_wp2_with fail
          refine hD.out.mono ?_
          rintro r wx ⟨rfl, rfl⟩
          go_wp2_with fail
          refine hTo.out.mono ?_
          rintro r w13 ⟨v13, rfl, ho13, hb13⟩
          rw [hl4.out.td] at ho13
          obtain ⟨a13, c13, rfl⟩ := (ho13.rd tdShp).len
          have hfin := Lib.hid (hbel.out.trans (hb13.mono hbel.out.size))
          clear ho13 hb13 hD hTo
          go_wp2
          go_ret
          exact ⟨rfl, hfin.out⟩

/-! the row's step, written out by law.py -/
set_option maxRecDepth 100000 in
theorem lifted (os : Os) (started : os.Started) (H : Type) (enc : TypeId × Value → H) :
    ReturnsInHanded {} Tryz.checked os 8 .any (Rows.nodeLateSpec.pre6 enc Tryz.prog Tryz.f8 Rows.nodeLateRow.domain false) (Rows.nodeLateSpec.post enc Tryz.prog Tryz.f8 false true false false) := by
  refine returnsInHanded_of_change_shaped (C := Tryz.checked) own started (by kernel_rfl) Tryz.func8
    (ChangeSpec.witness6 (enc := enc) (C := Tryz.checked) false ⟨#[], #[.int .i64 0, .int .i64 0, .int .i64 0, .bool false, .slice none 0 0], []⟩ 8 (by kernel_rfl) (by kernel_rfl) (by kernel_rfl) (by kernel_rfl)) ?_
  intro W base args ds gs before hval0 hW hcnd _ hsh _
  have hval : ∀ (j : Nat) t v, Tryz.f8.params[j]? = some t → args[j]? = some v → Value.okWide Tryz.prog W .any base t v := hval0
  have hW' := hW
  obtain ⟨p, q, hA0, hV, rfl, hfz, hnd⟩ := hW
  have hA : DataW.TrodAll enc Tryz.prog W 0 (fun _ => true) true Tryz.f8.params.toList args.toList ds p := hA0
  rw [Tryz.params8] at hA hval
  obtain ⟨v0, vs0, d0, ds0, p0, q0, hargs, rfl, rfl, h0, r0⟩ := trodAll_cons hA
  obtain ⟨v1, vs1, d1, ds1, p1, q1, rfl, rfl, rfl, h1, r1⟩ := trodAll_cons r0
  obtain ⟨v2, vs2, d2, ds2, p2, q2, rfl, rfl, rfl, h2, r2⟩ := trodAll_cons r1
  obtain ⟨v3, vs3, d3, ds3, p3, q3, rfl, rfl, rfl, h3, r3⟩ := trodAll_cons r2
  obtain ⟨v4, vs4, d4, ds4, p4, q4, rfl, rfl, rfl, h4, r4⟩ := trodAll_cons r3
  obtain ⟨rfl, rfl, rfl⟩ := trodAll_nil r4
  obtain rfl : args = #[v0, v1, v2, v3, v4] := by cases args; simp_all
  obtain ⟨rfl, rfl⟩ := trodVars_none hV
  have k0 := h0
  have lt0 : ∀ x ∈ p0, x.block < W.heap.size := by obtain ⟨m, hm⟩ := k0; exact DataW.trod_lt m _ _ _ hm
  have k1 := h1
  have lt1 : ∀ x ∈ p1, x.block < W.heap.size := by obtain ⟨m, hm⟩ := k1; exact DataW.trod_lt m _ _ _ hm
  have k2 := h2
  have lt2 : ∀ x ∈ p2, x.block < W.heap.size := by obtain ⟨m, hm⟩ := k2; exact DataW.trod_lt m _ _ _ hm
  have k3 := h3
  have lt3 : ∀ x ∈ p3, x.block < W.heap.size := by obtain ⟨m, hm⟩ := k3; exact DataW.trod_lt m _ _ _ hm
  have k4 := h4
  have lt4 : ∀ x ∈ p4, x.block < W.heap.size := by obtain ⟨m, hm⟩ := k4; exact DataW.trod_lt m _ _ _ hm
  obtain ⟨a0, rfl, rfl, rfl, w0⟩ := open_int Tryz.underlying3 (hval 0 3 v0 rfl rfl) h0
  have w0 := bounds_i64 w0
  obtain ⟨a1, rfl, rfl, rfl, w1⟩ := open_int Tryz.underlying2 (hval 1 2 v1 rfl rfl) h1
  have w1 := bounds_i64 w1
  obtain ⟨a2, rfl, rfl, rfl, w2⟩ := open_int Tryz.underlying2 (hval 2 2 v2 rfl rfl) h2
  have w2 := bounds_i64 w2
  obtain ⟨a3, rfl, rfl, rfl⟩ := open_bool Tryz.underlying4 (hval 3 4 v3 rfl rfl) h3
  obtain ⟨l4, w4, b4⟩ := slentry_open (hval 4 34 v4 rfl rfl) h4
  clear hA0 hval0
  simp only [List.append_nil] at hW'
  obtain ⟨m, hm⟩ := maxLen_cell W hsh
  refine (walk m a0 a1 a2 a3 v4 l4 W hm w0 w1 w2 w4 b4).mono fun e W' ⟨he, bel⟩ => ?_
  subst he
  exact ⟨_, rfl, _, _, _, [], _, [], hW', trodAll_mk1 (shut_bool Tryz.underlying4 _), (trodAll_cons_mk (Below.trod laidOut (by kernel_rfl) (of_decide_eq_true (by kernel_rfl)) k0 bel lt0) (trodAll_cons_mk (Below.trod laidOut (by kernel_rfl) (of_decide_eq_true (by kernel_rfl)) k1 bel lt1) (trodAll_cons_mk (Below.trod laidOut (by kernel_rfl) (of_decide_eq_true (by kernel_rfl)) k2 bel lt2) (trodAll_cons_mk (Below.trod laidOut (by kernel_rfl) (of_decide_eq_true (by kernel_rfl)) k3 bel lt3) (trodAll_cons_mk (Below.trod laidOut (by kernel_rfl) (of_decide_eq_true (by kernel_rfl)) k4 bel lt4) trodAll_mk0))))), rfl, bel.frame _, fun h => by cases h⟩

theorem over : Rows.nodeLateRow.holds Tryz.pinned (OpenSpec.ofChange Rows.nodeLateSpec) :=
  OpenClaim.holds_of_wide 8 Tryz.f8 rfl rfl rfl rfl rfl rfl rfl ⟨rfl, rfl, rfl, rfl, rfl⟩ rfl rfl rfl rfl rfl (by kernel_rfl) Tryz.func8 (by kernel_rfl)
    (of_decide_eq_true (by kernel_rfl)) (by unfold Func.isWrapper; first | (rw [if_pos (by decide +kernel)]; kernel_rfl) | (rw [if_neg (by decide +kernel)]; exact ⟨rfl, rfl⟩))
    (fun os started H enc _ => lifted os started H enc)

theorem proved : Rows.NodeLateSaid := over
end Go.Proofs.YtphlcbbdpmkipaaGreat.lawNodeLate
