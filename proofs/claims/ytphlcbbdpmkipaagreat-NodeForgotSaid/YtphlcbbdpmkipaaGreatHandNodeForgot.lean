/- One that started anew takes part in nothing, till it has the word of a decider of a view that is its promise or later. -/
import Derived.Test.YtphlcbbdpmkipaaGreatPkK
import Derived.Test.YtphlcbbdpmkipaaGreatPkQ
import Derived.Laws.BitsLemmas
namespace Go.Proofs.YtphlcbbdpmkipaaGreat.lawNodeForgot
open Go.ChangeShapes Go.WideShapes Go.ChangeAt Go.RowKit
set_option linter.unusedVariables false

theorem and1 (x : Int) : bits .and .i64 x 1 = x % 2 := by
  have h15 : (BitVec.ofInt 64 1) = 1#64 := by decide
  have h1 : ((BitVec.ofInt 64 x) &&& (1#64)).toNat = (x % 18446744073709551616).toNat % 2 := by
    rw [BitVec.toNat_and, BitVec.toNat_ofInt, show (1#64).toNat = 2 ^ 1 - 1 from rfl, Nat.and_two_pow_sub_one_eq_mod]
    rfl
  show IntKind.i64.wrap (((BitVec.ofInt 64 x) &&& (BitVec.ofInt 64 1)).toNat : Int) = x % 2
  rw [h15, h1, IntKind.wrap_i64]
  omega
def fgM (kind p me n view num : Int) (yes : Bool) : Ms := ⟨kind, p, me, 1, view, 0, ((2 ^ n.toNat - 1 : Nat) : Int), 0, [], 0, 2 + num % 2, 0, yes⟩
def fgW (kind view num promise : Int) (yes : Bool) : Bool := kind == 11 && yes && num % 2 == 0 && decide (promise ≤ view)
theorem all_mem (n : Int) (h3 : 3 ≤ n) (h7 : n ≤ 7) : (0 ≤ ((2 ^ n.toNat - 1 : Nat) : Int) ∧ ((2 ^ n.toNat - 1 : Nat) : Int) < 128) ∧ mostT ((2 ^ n.toNat - 1 : Nat) : Int) n = true ∧ ∀ k : Int, 1 ≤ k → k ≤ n → hasT (((2 ^ n.toNat - 1 : Nat) : Int)).toNat k = true := by
  rcases (by omega : n = 3 ∨ n = 4 ∨ n = 5 ∨ n = 6 ∨ n = 7) with rfl | rfl | rfl | rfl | rfl
  all_goals
    refine ⟨by decide +kernel, by decide +kernel, fun k h1 h2 => ?_⟩
    rcases (by omega : k = 1 ∨ k = 2 ∨ k = 3 ∨ k = 4 ∨ k = 5 ∨ k = 6 ∨ k = 7) with rfl | rfl | rfl | rfl | rfl | rfl | rfl
    all_goals first | decide +kernel | omega
theorem fg_may (kind p me n view num : Int) (yes : Bool) (k1 : 1 ≤ kind) (k2 : kind ≤ 13) (n3 : 3 ≤ n) (n7 : n ≤ 7) (p1 : 1 ≤ p) (p2 : p ≤ n) (m1 : 1 ≤ me) (m2 : me ≤ n) (hne : p ≠ me) (v1 : 1 ≤ view) (v2 : view ≤ 60) : MayM (fgM kind p me n view num yes) := by
  obtain ⟨⟨a1, a2⟩, _⟩ := all_mem n n3 n7
  generalize hT : ((2 ^ n.toNat - 1 : Nat) : Int) = T at a1 a2
  unfold fgM
  rw [hT]
  refine ⟨?_, ?_, ?_, ?_, ?_, ?_, ?_, ?_, ?_, ?_, ?_, ?_, ?_, ?_, ?_, ?_, ?_, ?_, ?_, ?_, ?_, ?_, ?_, ?_, fun e he => by cases he⟩ <;> (first | (dsimp only; omega) | (simp; done) | (dsimp only; decide))
/-- what it does with it -/
theorem fg_hear (kind p me n view num promise : Int) (yes : Bool) (n3 : 3 ≤ n) (n7 : n ≤ 7) (hp : p = decT view n) (p1 : 1 ≤ p) (p2 : p ≤ n) (m1 : 1 ≤ me) (m2 : me ≤ n) (v1 : 1 ≤ view) (v2 : view ≤ 60) (q1 : 0 ≤ promise) (q2 : promise ≤ 40) (S : Nd) (hS : S = Nd.make me n 2 promise) :
    Bare ((S.heard_ (fgM kind p me n view num yes)).hear0 (fgM kind p me n view num yes)).1 ∧
    (0 ≤ (S.hear (fgM kind p me n view num yes)).1.mem ∧ (S.hear (fgM kind p me n view num yes)).1.mem < 128) ∧
    (fgW kind view num promise yes = true → (S.hear (fgM kind p me n view num yes)).1.knows = true ∧ (S.hear (fgM kind p me n view num yes)).1.in_ = true ∧ (S.hear (fgM kind p me n view num yes)).1.last = view ∧ (S.hear (fgM kind p me n view num yes)).1.dv = view ∧ ∃ m', (S.hear (fgM kind p me n view num yes)).2 = [m'] ∧ m'.kind = 6) ∧
    (fgW kind view num promise yes = false → (S.hear (fgM kind p me n view num yes)).1.knows = false ∧ (S.hear (fgM kind p me n view num yes)).1.in_ = false ∧ (S.hear (fgM kind p me n view num yes)).1.dv = promise ∧
      (kind = 12 → ∃ m', (S.hear (fgM kind p me n view num yes)).2 = [m'] ∧ m'.kind = 13) ∧ (kind ≠ 12 → (S.hear (fgM kind p me n view num yes)).2 = [])) := by
  obtain ⟨hm, hmost, hhas⟩ := all_mem n n3 n7
  have hge : (S.hear (fgM kind p me n view num yes)) = (((S.heard_ (fgM kind p me n view num yes)).hear0 (fgM kind p me n view num yes)).1.settle, ((S.heard_ (fgM kind p me n view num yes)).hear0 (fgM kind p me n view num yes)).2) := by
    unfold Nd.hear
    rw [if_neg (by
      subst hS
      show ¬ ((me != me) || decide ((1 : Int) < eightZ.getD p.toNat 0)) = true
      have : eightZ.getD p.toNat 0 = 0 := by
        rcases (by omega : p = 1 ∨ p = 2 ∨ p = 3 ∨ p = 4 ∨ p = 5 ∨ p = 6 ∨ p = 7) with rfl | rfl | rfl | rfl | rfl | rfl | rfl <;> rfl
      rw [this]; simp)]
    rfl
  obtain ⟨M, hM⟩ : ∃ M, M = fgM kind p me n view num yes := ⟨_, rfl⟩
  obtain ⟨s, hs⟩ : ∃ s, s = S.heard_ M := ⟨_, rfl⟩
  rw [← hM, ← hs] at hge
  rw [← hM, ← hs, hge]
  have hk : s.knows = false := by rw [hs, hS]; rfl
  have hb : Bare s := by rw [hs, hS]; exact ⟨rfl, rfl, rfl⟩
  have hw : wordM s M = fgW kind view num promise yes := by
    rw [hs, hS, hM]
    unfold wordM fgW fgM
    dsimp only [Nd.heard_, Nd.make]
    rw [hmost, hhas p p1 p2, ← hp]
    simp only [beq_self_eq_true, Bool.and_true, logE, List.foldl_nil, List.length_nil]
    rw [Bool.eq_iff_iff]
    simp only [Bool.and_eq_true, beq_iff_eq, decide_eq_true_eq, and_assoc]
    constructor
    · rintro ⟨a1, a2, a3, a4, _⟩
      have a5 := of_decide_eq_true a4
      exact ⟨a1, a2, by omega, by omega⟩
    · rintro ⟨a1, a2, a3, a4⟩
      refine ⟨a1, a2, by omega, decide_eq_true (by omega), trivial, ?_⟩
      simp
  have hin : s.in_ = false := by unfold Nd.in_; rw [hk]; rfl
  have hmem : s.mem = 0 := by rw [hs, hS]; rfl
  have hdv : s.dv = promise := by rw [hs, hS]; rfl
  have hid : s.id = me := by rw [hs, hS]; rfl
  have hMk : M.kind = kind := by rw [hM]; rfl
  by_cases h12 : kind = 12
  · have e : s.hear0 M = (s, [{ s.ms 13 M.frm with num := M.num, clock := s.clock }]) := by
      unfold Nd.hear0; rw [if_pos (by rw [hMk, h12]; rfl)]
    have hf : fgW kind view num promise yes = false := by unfold fgW; rw [h12]; rfl
    rw [e]
    refine ⟨hb, by rw [settle_bare hb, hmem]; omega, fun h => ?_, fun _ => ?_⟩
    · rw [hf] at h; cases h
    · dsimp only
      rw [settle_bare hb]
      exact ⟨hk, hin, hdv, fun _ => ⟨_, rfl, rfl⟩, fun h => absurd h12 h⟩
  have e : s.hear0 M = s.state M := by
    unfold Nd.hear0
    rw [if_neg (by rw [hMk]; simpa using h12), if_pos (by rw [hk]; rfl)]
  rw [e]
  cases hW : fgW kind view num promise yes with
  | false =>
    have e2 : s.state M = (s, []) := by unfold Nd.state; rw [hw, hW]; rfl
    rw [e2]
    refine ⟨hb, by rw [settle_bare hb, hmem]; omega, fun h => (by cases h), fun _ => ?_⟩
    dsimp only
    rw [settle_bare hb]
    exact ⟨hk, hin, hdv, fun h => absurd h h12, fun _ => rfl⟩
  | true =>
    have hvp : promise ≤ view := by unfold fgW at hW; simp only [Bool.and_eq_true, decide_eq_true_eq] at hW; exact hW.2
    have e2 : s.state M = ({ s.take M with knows := true }, if hasT (s.take M).mem.toNat s.id then [({ s.take M with knows := true } : Nd).ackM M.frm 0] else []) := by unfold Nd.state; rw [hw, hW]; rfl
    have e3 : (s.take M).mem = ((2 ^ n.toNat - 1 : Nat) : Int) := by rw [hM]; rfl
    have e4 : (s.take M).last = view := by rw [hM]; rfl
    have e5 : (s.take M).dv = view := by
      show (if s.dv < M.view ∧ M.view ≤ 1099511627776 then M.view else s.dv) = view
      have : M.view = view := by rw [hM]; rfl
      rw [this, hdv]
      split
      · rfl
      · omega
    have e6 : (s.take M).id = me := hid
    have hb2 : Bare ({ s.take M with knows := true } : Nd) := ⟨by show logE M.ents = []; rw [hM]; rfl, hb.p, by
      show min (max s.com M.com) ((logE M.ents).length : Int) = 0
      rw [hb.c, hM]; rfl⟩
    rw [e2]
    refine ⟨hb2, ?_, fun _ => ?_, fun h => (by cases h)⟩
    · dsimp only
      rw [settle_bare hb2]
      show 0 ≤ (s.take M).mem ∧ (s.take M).mem < 128
      rw [e3]; exact hm
    · dsimp only
      rw [settle_bare hb2]
      refine ⟨rfl, ?_, e4, e5, ?_⟩
      · show (true && decide (0 < (s.take M).last) && (s.take M).last == (s.take M).dv && hasT (s.take M).mem.toNat (s.take M).id) = true
        rw [e3, e4, e5, e6, hhas me m1 m2]
        simp; omega
      · rw [e3, hid, hhas me m1 m2]
        exact ⟨_, rfl, rfl⟩

set_option maxRecDepth 100000 in
set_option maxHeartbeats 16000000 in
theorem walk (mm n promise view kind : Int) (yes : Bool) (num : Int) (w : World) (hmm : w.cell? ⟨0, 0, none⟩ = some (.int .i64 mm)) (hn : I64 n) (hpr : I64 promise) (hvw : I64 view) (hkd : I64 kind) (hnum : I64 num) :
    Calls Tryz.prog 7 #[.int .i64 n, .int .i64 promise, .int .i64 view, .int .i64 kind, .bool yes, .int .i64 num] w fun r w' => r = .returned (.bool true) ∧ Below w.heap.size w w' := by
  have hbeg := Lib.hid (b25_any w)
  clear hmm
  obtain ⟨hn1, hn2⟩ := hn
  obtain ⟨hpr1, hpr2⟩ := hpr
  obtain ⟨hvw1, hvw2⟩ := hvw
  obtain ⟨hkd1, hkd2⟩ := hkd
  obtain ⟨hnum1, hnum2⟩ := hnum
  by_cases g : 3 ≤ n ∧ n ≤ 7 ∧ 0 ≤ promise ∧ promise ≤ 40 ∧ 1 ≤ view ∧ view ≤ 60 ∧ 1 ≤ kind ∧ kind ≤ 13
  case neg =>
    replace g := Lib.hid g
    go_enter Tryz.func7, Tryz.ntmps7
    go_wp2_with fail
    refine hbeg.out.mono ?_
    rintro r w1 ⟨rfl, hb1⟩
    replace hb1 := Lib.hid hb1
    by_cases g1 : n < 3
    · go_wp2
      go_ret
      exact ⟨rfl, hb1.out⟩
    by_cases g2 : n > 7
    · go_wp2
      go_ret
      exact ⟨rfl, hb1.out⟩
    by_cases g3 : promise < 0
    · go_wp2
      go_ret
      exact ⟨rfl, hb1.out⟩
    by_cases g4 : promise > 40
    · go_wp2
      go_ret
      exact ⟨rfl, hb1.out⟩
    by_cases g5 : view < 1
    · go_wp2
      go_ret
      exact ⟨rfl, hb1.out⟩
    by_cases g6 : view > 60
    · go_wp2
      go_ret
      exact ⟨rfl, hb1.out⟩
    by_cases g7 : kind < 1
    · go_wp2
      go_ret
      exact ⟨rfl, hb1.out⟩
    by_cases g8 : kind > 13
    · go_wp2
      go_ret
      exact ⟨rfl, hb1.out⟩
    exact absurd (by omega) g.out
  obtain ⟨n3, n7, q1, q2, v1, v2, k1, k2⟩ := g
  have g1 : ¬ n < 3 := by omega
  have g2 : ¬ n > 7 := by omega
  have g3 : ¬ promise < 0 := by omega
  have g4 : ¬ promise > 40 := by omega
  have g5 : ¬ view < 1 := by omega
  have g6 : ¬ view > 60 := by omega
  have g7 : ¬ kind < 1 := by omega
  have g8 : ¬ kind > 13 := by omega
  obtain ⟨p, hp⟩ : ∃ p, p = decT view n := ⟨_, rfl⟩
  have hdp : decT view n = 1 + (view - 1) % n := if_neg (by omega)
  have hp1 : 1 ≤ p ∧ p ≤ n := by
    have h1 : 0 ≤ (view - 1) % n := Int.emod_nonneg _ (by omega)
    have h2 : (view - 1) % n < n := Int.emod_lt_of_pos _ (by omega)
    rw [hp, hdp]; omega
  obtain ⟨p1, p2⟩ := hp1
  have hPc := Lib.hid (fun wx => rdecider_any view n wx (by omega) (by omega))
  rw [← hp] at hPc
  obtain ⟨me, hme⟩ : ∃ me, me = 1 + p % n := ⟨_, rfl⟩
  have hm1 : 1 ≤ me ∧ me ≤ n ∧ p ≠ me := by
    rcases (by omega : p < n ∨ p = n) with h | h
    · rw [hme, Int.emod_eq_of_lt (by omega) h]; omega
    · rw [hme, h, Int.emod_self]; omega
  obtain ⟨m1, m2, hne⟩ := hm1
  obtain ⟨S, hS0⟩ : ∃ S, S = Nd.make me n 2 promise := ⟨_, rfl⟩
  obtain ⟨f1, f2, f3, f4⟩ := fg_hear kind p me n view num promise yes n3 n7 hp p1 p2 m1 m2 v1 v2 q1 q2 S hS0
  have hmay := fg_may kind p me n view num yes k1 k2 n3 n7 p1 p2 m1 m2 hne v1 v2
  have hok : Ok 0 S := by rw [hS0]; exact Ok.make n3 n7 m1 m2 (by omega) (by omega) q1 (by omega)
  have hkn : S.knows = false := by rw [hS0]; rfl
  obtain ⟨⟨ma1, ma2⟩, _⟩ := all_mem n n3 n7
  obtain ⟨T, hT⟩ : ∃ T, T = ((2 ^ n.toNat - 1 : Nat) : Int) := ⟨_, rfl⟩
  have hsh := shl_all n n3 n7
  rw [← hT] at ma1 ma2 hsh
  replace hp := Lib.hid hp
  replace hS0 := Lib.hid hS0
  replace f1 := Lib.hid f1
  replace f2 := Lib.hid f2
  replace f3 := Lib.hid f3
  replace f4 := Lib.hid f4
  replace hmay := Lib.hid hmay
  replace hok := Lib.hid hok
  replace hkn := Lib.hid hkn
  replace hT := Lib.hid hT
  replace hme := Lib.hid hme
  replace hsh := Lib.hid hsh
  clear hdp
  go_enter Tryz.func7, Tryz.ntmps7
  go_wp2_with fail
  refine hbeg.out.mono ?_
  rintro r w1 ⟨rfl, hb1⟩
  clear hbeg
  have hsz1 := hb1.size
  obtain ⟨W1, hW1⟩ : ∃ W, W = w1.alloc (.cells #[.int .i64 0, .int .i64 0] 26) := ⟨_, rfl⟩
  have hB1 : Below w.heap.size w W1 := hW1 ▸ hb1.alloc hsz1 _
  have hd1 : dkO W1 w1.heap.size 0 #[.int .i64 0, .int .i64 0] 26 0 0 := hW1 ▸ dkO_new w1 0
  obtain ⟨dk, hdk⟩ : ∃ dk, dk = w1.heap.size := ⟨_, rfl⟩
  rw [← hdk] at hd1
  have hdl := hdk ▸ hsz1
  have hSt := Lib.hid (dStart_any dk 0 0 W1 ((cell_at hd1.1 0).trans hd1.2.1) (free_at hd1.1 0) (by omega) (by omega))
  obtain ⟨W2, hW2⟩ : ∃ W2, W2 = W1.setCell ⟨dk, 0, none⟩ (.int .i64 (0 + 1)) := ⟨_, rfl⟩
  have hd2 : W2.heap[dk]? = some (.cells #[.int .i64 1, .int .i64 0] 26 (0, 0)) := hW2 ▸ set_at hd1.1
  have hB2 : Below w.heap.size w W2 := hW2 ▸ hB1.setCell hdl _
  have hPr : Calls Tryz.prog 23 #[.pointer (some ⟨dk, 0, none⟩), .int .i64 promise] W2 fun r w' => (∃ b, r = .returned (.bool b)) ∧ Below w.heap.size w w' ∧ dkO w' dk 0 #[.int .i64 1, .int .i64 promise] 26 1 promise := by
    by_cases h0 : promise = 0
    · refine (dPromise_no dk 0 0 promise W2 (cell_at hd2 1) (by omega)).mono ?_
      rintro r w' ⟨rfl, rfl⟩
      exact ⟨⟨_, rfl⟩, hB2, by rw [h0]; exact ⟨hd2, rfl, rfl⟩⟩
    · refine (dPromise_yes dk 0 0 promise W2 (cell_at hd2 1) (free_at hd2 1) (by omega) (by omega)).mono ?_
      rintro r w' ⟨rfl, rfl⟩
      exact ⟨⟨_, rfl⟩, hB2.setCell hdl _, set_at hd2, rfl, rfl⟩
  replace hPr := Lib.hid hPr
  replace hdk := Lib.hid hdk
  replace hW1 := Lib.hid hW1
  replace hW2 := Lib.hid hW2
  replace hb1 := Lib.hid hb1
  replace hd1 := Lib.hid hd1
  replace hd2 := Lib.hid hd2
  replace hB1 := Lib.hid hB1
  replace hB2 := Lib.hid hB2
  clear hsz1
  go_upto_region 7 with (fail)
  rw [← hW1.out, ← hdk.out]
  go_wp2_with fail
  refine hSt.out.mono ?_
  rintro r wx ⟨rfl, rfl⟩
  rw [← hW2.out]
  go_wp2_with fail
  refine hPr.out.mono ?_
  rintro r W3 ⟨⟨bb, rfl⟩, hB3, hd3⟩
  have hMk := Lib.hid (pxMake W3 me n 1 promise dk _ _ w hdl hB3 hd3 n3 n7 m1 m2 (by omega) (by omega) q1 (by omega))
  rw [show (1 : Int) + 1 = 2 from rfl, ← hS0.out] at hMk
  replace hB3 := Lib.hid hB3
  replace hd3 := Lib.hid hd3
  clear hSt hPr
  go_wp2_with fail
  refine (hPc.out _).mono ?_
  rintro r wx ⟨rfl, rfl⟩
  go_upto_region 11 with (fail)
  rw [← hme.out]
  have hwr : wrap64 me = me := by unfold wrap64; omega
  rw [hwr]
  clear hwr
  go_wp2_with fail
  refine hMk.out.mono ?_
  rintro r w2 ⟨own2, b, rfl, p2', _, _⟩
  have hK2 := pxKnows p2'
  rw [hkn.out] at hK2
  replace hK2 := Lib.hid hK2
  replace p2' := Lib.hid p2'
  clear hMk
  go_wp2_with fail
  refine hK2.out.mono ?_
  rintro r wx ⟨rfl, rfl⟩
  go_wp2_with fail
  refine (from25_any _ _ _ _ _).mono ?_
  rintro r w4 ⟨rfl, hb4⟩
  obtain ⟨p4, _⟩ := p2'.out.grow hb4
  clear hb4 hK2
  obtain ⟨W5, hW5⟩ : ∃ W, W = w4.alloc (.cells #[.int .i64 kind, .int .i64 p, .int .i64 me, .int .i64 1, .int .i64 view, .int .i64 0, .int .i64 0, .int .i64 0, .slice none 0 0, .int .i64 0, .int .i64 0, .int .i64 0, .bool false] 36) := ⟨_, rfl⟩
  have hB5 : Below w4.heap.size w4 W5 := hW5 ▸ (Below.refl _ _).alloc (Nat.le_refl _) _
  obtain ⟨mb, hmb⟩ : ∃ mb, mb = w4.heap.size := ⟨_, rfl⟩
  have hm5 : W5.heap[mb]? = some (.cells #[.int .i64 kind, .int .i64 p, .int .i64 me, .int .i64 1, .int .i64 view, .int .i64 0, .int .i64 0, .int .i64 0, .slice none 0 0, .int .i64 0, .int .i64 0, .int .i64 0, .bool false] 36 (0, 0)) := hW5 ▸ hmb ▸ at_new _ _
  have x6 : W5.cell? ⟨mb, 6, none⟩ = some (.int .i64 0) := cell_at hm5 6
  have x10 : W5.cell? ⟨mb, 10, none⟩ = some (.int .i64 0) := cell_at hm5 10
  have x12 : W5.cell? ⟨mb, 12, none⟩ = some (.bool false) := cell_at hm5 12
  have z6 := free_at hm5 6
  have z10 := free_at hm5 10
  have z12 := free_at hm5 12
  have lm5 := at_lt hm5
  obtain ⟨W6, hW6⟩ : ∃ W6, W6 = ((W5.setCell ⟨mb, 6, none⟩ (.int .i64 T)).setCell ⟨mb, 10, none⟩ (.int .i64 (2 + num % 2))).setCell ⟨mb, 12, none⟩ (.bool yes) := ⟨_, rfl⟩
  have hm6 : W6.heap[mb]? = some (.cells #[.int .i64 kind, .int .i64 p, .int .i64 me, .int .i64 1, .int .i64 view, .int .i64 0, .int .i64 T, .int .i64 0, .slice none 0 0, .int .i64 0, .int .i64 (2 + num % 2), .int .i64 0, .bool yes] 36 (0, 0)) := hW6 ▸ set_at (set_at (set_at hm5))
  have hB6 : Below w4.heap.size w4 W6 := hW6 ▸ ((hB5.setCell (Nat.le_of_eq hmb.symm) _).setCell (Nat.le_of_eq hmb.symm) _).setCell (Nat.le_of_eq hmb.symm) _
  obtain ⟨p6, _⟩ := p4.grow hB6
  replace hW5 := Lib.hid hW5
  replace hmb := Lib.hid hmb
  replace hm5 := Lib.hid hm5
  replace hm6 := Lib.hid hm6
  replace p6 := Lib.hid p6
  replace p4 := Lib.hid p4
  replace hB5 := Lib.hid hB5
  replace hB6 := Lib.hid hB6
  go_upto_region 15 with (fail)
  rw [← hW5.out, ← hmb.out]
  have hax := and1 num
  have hsh' := hsh.out
  go_upto_region 16 with (fail)
  rw [← hW6]
  replace hW6 := Lib.hid hW6
  clear x6 x10 x12 z6 z10 z12 lm5 hax hsh'
  have m0' := cell_at hm6.out 0
  have m1' := cell_at hm6.out 1
  have m2' := cell_at hm6.out 2
  have m3' := cell_at hm6.out 3
  have m4' := cell_at hm6.out 4
  have m5' := cell_at hm6.out 5
  have m6' := cell_at hm6.out 6
  have m7' := cell_at hm6.out 7
  have m8' := cell_at hm6.out 8
  have m9' := cell_at hm6.out 9
  have m10' := cell_at hm6.out 10
  have m11' := cell_at hm6.out 11
  have m12' := cell_at hm6.out 12
  simp only [List.getElem?_toArray, List.getElem?_cons_zero, List.getElem?_cons_succ] at m0' m1' m2' m3' m4' m5' m6' m7' m8' m9' m10' m11' m12'
  have lm6 := at_lt hm6.out
  have e60 : fgM kind p me n view num yes = ⟨kind, p, me, 1, view, 0, T, 0, [], 0, 2 + num % 2, 0, yes⟩ := by unfold fgM; rw [hT.out]
  obtain ⟨M, hM⟩ : ∃ M, M = fgM kind p me n view num yes := ⟨_, rfl⟩
  rw [← hM] at e60
  rw [← hM] at hmay f1 f2 f3 f4
  replace hM := Lib.hid hM
  have hml : M.ents = [] := by rw [e60]
  have hcall := hear25_any p6.out M none 0 (by rw [hml]; exact ⟨none, 0, rfl, Nat.le_refl _, Nat.zero_le _, fun h => absurd h (Nat.lt_irrefl 0)⟩) hmay.out (S.hear M).1 (S.hear M).2
    (fun v w1 q hr => pxHear q v M hr hmay.out (fun _ _ => f1.out)
      (fun h12 hk own1 w1 a sa sc hN hpe => by
        have := xState_any 0 hN (hok.out.heard_ _) hk M sa sc (by simp) hpe (by rw [hml]; simp) (by rw [e60]; exact ⟨ma1, ma2⟩) (by rw [e60]; exact ⟨hvw1, hvw2⟩) (by rw [e60]; exact Int.le_refl _) (by rw [e60]; show (0 : Int) ≤ 1000; decide)
        simpa using this)
      (fun _ hk => by rw [hkn.out] at hk; cases hk))
  rw [hml] at hcall
  have hcall2 : Calls Tryz.prog 14 #[ptr0 b, msVal ⟨kind, p, me, 1, view, 0, T, 0, [], 0, 2 + num % 2, 0, yes⟩ (.slice none 0 0)] W6 fun r w' => ∃ v' own' o, r = .returned v' ∧ PX own' w w' b dk (S.hear M).1 ∧ Keeps own2 own' W6 w' ∧ pubM own' w' v' o ∧ o.map MsS.m = (S.hear M).2 := by
    rw [e60] at hcall ⊢
    exact hcall
  replace hcall2 := Lib.hid hcall2
  obtain ⟨R, hR⟩ : ∃ R, R = S.hear M := ⟨_, rfl⟩
  rw [← hR] at hcall2 f2 f3 f4
  replace hR := Lib.hid hR
  replace e60 := Lib.hid e60
  replace hml := Lib.hid hml
  clear hcall
  go_wp2_with fail
  refine hcall2.out.mono ?_
  rintro r w6 ⟨v6, own6, o6, rfl, p7, k6, q6, e6⟩
  obtain ⟨ad, cp, rfl, had⟩ := q6.len e6
  clear m0' m1' m2' m3' m4' m5' m6' m7' m8' m9' m10' m11' m12' lm6 hcall2 k6
  have hV := Lib.hid (pxView p7 f2.out)
  replace p7 := Lib.hid p7
  replace q6 := Lib.hid q6
  replace e6 := Lib.hid e6
  replace had := Lib.hid had
  obtain ⟨c1, h1⟩ : ∃ c, (kind == 11) = c := ⟨_, rfl⟩
  obtain ⟨c3, h3⟩ : ∃ c, (num % 2 == 0) = c := ⟨_, rfl⟩
  obtain ⟨c4, h4⟩ : ∃ c, decide (promise ≤ view) = c := ⟨_, rfl⟩
  have hax := and1 num
  go_upto_region 17 with (fail)
  go_cut [21] (fun z wx => z = .bool (c1 && yes && c3 && c4) ∧ w6 = wx)
  case first =>
    cases c1
    · go_wp2_with fail
      go_meet
      exact ⟨rfl, rfl⟩
    cases yes
    · go_wp2_with fail
      go_meet
      exact ⟨rfl, rfl⟩
    cases c3
    · go_wp2_with fail
      go_meet
      exact ⟨rfl, rfl⟩
    · go_wp2_with fail
      go_meet
      exact ⟨by rw [← h4]; simp, rfl⟩
  case rest =>
    obtain ⟨rfl, hwx⟩ := hcut
    rename World => wx
    subst hwx
    obtain ⟨W, hW⟩ : ∃ W, (c1 && yes && c3 && c4) = W := ⟨_, rfl⟩
    rw [hW]
    have hfw : fgW kind view num promise yes = W := by unfold fgW; rw [h1, h3, h4]; exact hW
    rw [hfw] at f3 f4
    have h12k : W = true → kind ≠ 12 := fun h => by
      rw [h] at hW
      simp only [Bool.and_eq_true] at hW
      rw [hW.1.1.1] at h1
      have := eq_of_beq h1
      omega
    replace hW := Lib.hid hW
    replace hfw := Lib.hid hfw
    replace h12k := Lib.hid h12k
    clear h1 h3 h4 hax
    go_wp2_with fail
    refine hV.out.mono ?_
    rintro r w8 ⟨rfl, hb8⟩
    obtain ⟨p8, _⟩ := p7.out.grow hb8
    have hKn := pxKnows p8
    have hLa := pxLast p8
    have hDk := pxDisk p8
    have hBf := Lib.hid p8.bel
    clear hV p8
    cases W
    case true =>
      obtain ⟨i1, i2, i3, i4, m', i5, i6⟩ := f3.out rfl
      have hvw : R.1.view = (view, R.1.mem, true) := by unfold Nd.view; rw [if_pos i2, i3]
      rw [hvw]
      rw [i1] at hKn
      rw [i3] at hLa
      rw [i4] at hDk
      have e6' := e6.out
      rw [i5] at e6'
      have had' := had.out
      rw [i5] at had' ⊢
      obtain ⟨gb, off, rfl, hgl⟩ := had' (by show 0 < 1; omega)
      have x0 := q6.out.cell e6' gb off rfl 0 (by show 0 < 1; omega) 0 (.int .i64 m'.kind) (by omega) rfl
      rw [i6] at x0
      simp only [Nat.zero_mul, Nat.add_zero] at x0
      have x0' : w8.cell? ⟨gb, off, none⟩ = some (.int .i64 6) := by rw [hb8.cell (cell_lt x0)]; exact x0
      replace hKn := Lib.hid hKn
      replace hLa := Lib.hid hLa
      replace hDk := Lib.hid hDk
      replace hvw := Lib.hid hvw
      replace i5 := Lib.hid i5
      replace e6' := Lib.hid e6'
      clear x0 hb8 had'
      go_wp2_with fail
      refine hKn.out.mono ?_
      rintro r wx ⟨rfl, rfl⟩
      go_wp2_with fail
      refine hLa.out.mono ?_
      rintro r wx ⟨rfl, rfl⟩
      go_wp2_with fail
      refine hDk.out.mono ?_
      rintro r wx ⟨rfl, rfl⟩
      go_wp2
      go_ret
      exact ⟨rfl, hBf.out⟩
    obtain ⟨i1, i2, i3, i4, i5⟩ := f4.out rfl
    have hvw : R.1.view = (0, 0, false) := by unfold Nd.view; rw [if_neg (by rw [i2]; exact Bool.false_ne_true)]
    rw [hvw]
    rw [i1] at hKn
    rw [i3] at hDk
    replace hKn := Lib.hid hKn
    replace hLa := Lib.hid hLa
    replace hDk := Lib.hid hDk
    replace hvw := Lib.hid hvw
    by_cases h12 : kind = 12
    · obtain ⟨m', i5, i6⟩ := i4 h12
      have hk12 : (kind == 12) = true := by rw [h12]; rfl
      have e6' := e6.out
      rw [i5] at e6'
      have had' := had.out
      rw [i5] at had' ⊢
      obtain ⟨gb, off, rfl, hgl⟩ := had' (by show 0 < 1; omega)
      have x0 := q6.out.cell e6' gb off rfl 0 (by show 0 < 1; omega) 0 (.int .i64 m'.kind) (by omega) rfl
      rw [i6] at x0
      simp only [Nat.zero_mul, Nat.add_zero] at x0
      have x0' : w8.cell? ⟨gb, off, none⟩ = some (.int .i64 13) := by rw [hb8.cell (cell_lt x0)]; exact x0
      replace i5 := Lib.hid i5
      replace e6' := Lib.hid e6'
      replace h12 := Lib.hid h12
      clear x0 hb8 had'
      go_wp2_with fail
      refine hKn.out.mono ?_
      rintro r wx ⟨rfl, rfl⟩
      go_wp2
      go_ret
      exact ⟨rfl, hBf.out⟩
    · have hk12 : (kind == 12) = false := beq_eq_false_iff_ne.2 h12
      have i6 := i5 h12
      rw [i6]
      replace i6 := Lib.hid i6
      replace h12 := Lib.hid h12
      replace i5 := Lib.hid i5
      clear hb8
      go_wp2_with fail
      refine hKn.out.mono ?_
      rintro r wx ⟨rfl, rfl⟩
      go_wp2_with fail
      refine hDk.out.mono ?_
      rintro r wx ⟨rfl, rfl⟩
      go_wp2
      go_ret
      exact ⟨rfl, hBf.out⟩

/-! the row's step, written out by law.py -/
set_option maxRecDepth 100000 in
theorem lifted (os : Os) (started : os.Started) (H : Type) (enc : TypeId × Value → H) :
    ReturnsInHanded {} Tryz.checked os 7 .any (Rows.nodeForgotSpec.pre6 enc Tryz.prog Tryz.f7 Rows.nodeForgotRow.domain false) (Rows.nodeForgotSpec.post enc Tryz.prog Tryz.f7 false true false false) := by
  refine returnsInHanded_of_change_shaped (C := Tryz.checked) own started (by kernel_rfl) Tryz.func7
    (ChangeSpec.witness6 (enc := enc) (C := Tryz.checked) false ⟨#[], #[.int .i64 0, .int .i64 0, .int .i64 0, .int .i64 0, .bool false, .int .i64 0], []⟩ 8 (by kernel_rfl) (by kernel_rfl) (by kernel_rfl) (by kernel_rfl)) ?_
  intro W base args ds gs before hval0 hW hcnd _ hsh _
  have hval : ∀ (j : Nat) t v, Tryz.f7.params[j]? = some t → args[j]? = some v → Value.okWide Tryz.prog W .any base t v := hval0
  have hW' := hW
  obtain ⟨p, q, hA0, hV, rfl, hfz, hnd⟩ := hW
  have hA : DataW.TrodAll enc Tryz.prog W 0 (fun _ => true) true Tryz.f7.params.toList args.toList ds p := hA0
  rw [Tryz.params7] at hA hval
  obtain ⟨v0, vs0, d0, ds0, p0, q0, hargs, rfl, rfl, h0, r0⟩ := trodAll_cons hA
  obtain ⟨v1, vs1, d1, ds1, p1, q1, rfl, rfl, rfl, h1, r1⟩ := trodAll_cons r0
  obtain ⟨v2, vs2, d2, ds2, p2, q2, rfl, rfl, rfl, h2, r2⟩ := trodAll_cons r1
  obtain ⟨v3, vs3, d3, ds3, p3, q3, rfl, rfl, rfl, h3, r3⟩ := trodAll_cons r2
  obtain ⟨v4, vs4, d4, ds4, p4, q4, rfl, rfl, rfl, h4, r4⟩ := trodAll_cons r3
  obtain ⟨v5, vs5, d5, ds5, p5, q5, rfl, rfl, rfl, h5, r5⟩ := trodAll_cons r4
  obtain ⟨rfl, rfl, rfl⟩ := trodAll_nil r5
  obtain rfl : args = #[v0, v1, v2, v3, v4, v5] := by cases args; simp_all
  obtain ⟨rfl, rfl⟩ := trodVars_none hV
  have k0 := h0
  have lt0 : ∀ x ∈ p0, x.block < W.heap.size := by obtain ⟨m, hm⟩ := k0; exact DataW.trod_lt m _ _ _ hm
  have k1 := h1
  have lt1 : ∀ x ∈ p1, x.block < W.heap.size := by obtain ⟨m, hm⟩ := k1; exact DataW.trod_lt m _ _ _ hm
  have k2 := h2
  have lt2 : ∀ x ∈ p2, x.block < W.heap.size := by obtain ⟨m, hm⟩ := k2; exact DataW.trod_lt m _ _ _ hm
  have k3 := h3
  have lt3 : ∀ x ∈ p3, x.block < W.heap.size := by obtain ⟨m, hm⟩ := k3; exact DataW.trod_lt m _ _ _ hm
  have k4 := h4
  have lt4 : ∀ x ∈ p4, x.block < W.heap.size := by obtain ⟨m, hm⟩ := k4; exact DataW.trod_lt m _ _ _ hm
  have k5 := h5
  have lt5 : ∀ x ∈ p5, x.block < W.heap.size := by obtain ⟨m, hm⟩ := k5; exact DataW.trod_lt m _ _ _ hm
  obtain ⟨a0, rfl, rfl, rfl, w0⟩ := open_int Tryz.underlying3 (hval 0 3 v0 rfl rfl) h0
  have w0 := bounds_i64 w0
  obtain ⟨a1, rfl, rfl, rfl, w1⟩ := open_int Tryz.underlying2 (hval 1 2 v1 rfl rfl) h1
  have w1 := bounds_i64 w1
  obtain ⟨a2, rfl, rfl, rfl, w2⟩ := open_int Tryz.underlying2 (hval 2 2 v2 rfl rfl) h2
  have w2 := bounds_i64 w2
  obtain ⟨a3, rfl, rfl, rfl, w3⟩ := open_int Tryz.underlying3 (hval 3 3 v3 rfl rfl) h3
  have w3 := bounds_i64 w3
  obtain ⟨a4, rfl, rfl, rfl⟩ := open_bool Tryz.underlying4 (hval 4 4 v4 rfl rfl) h4
  obtain ⟨a5, rfl, rfl, rfl, w5⟩ := open_int Tryz.underlying2 (hval 5 2 v5 rfl rfl) h5
  have w5 := bounds_i64 w5
  clear hA0 hval0
  simp only [List.append_nil] at hW'
  obtain ⟨m, hm⟩ := maxLen_cell W hsh
  refine (walk m a0 a1 a2 a3 a4 a5 W hm w0 w1 w2 w3 w5).mono fun e W' ⟨he, bel⟩ => ?_
  subst he
  exact ⟨_, rfl, _, _, _, [], _, [], hW', trodAll_mk1 (shut_bool Tryz.underlying4 _), (trodAll_cons_mk (Below.trod laidOut (by kernel_rfl) (of_decide_eq_true (by kernel_rfl)) k0 bel lt0) (trodAll_cons_mk (Below.trod laidOut (by kernel_rfl) (of_decide_eq_true (by kernel_rfl)) k1 bel lt1) (trodAll_cons_mk (Below.trod laidOut (by kernel_rfl) (of_decide_eq_true (by kernel_rfl)) k2 bel lt2) (trodAll_cons_mk (Below.trod laidOut (by kernel_rfl) (of_decide_eq_true (by kernel_rfl)) k3 bel lt3) (trodAll_cons_mk (Below.trod laidOut (by kernel_rfl) (of_decide_eq_true (by kernel_rfl)) k4 bel lt4) (trodAll_cons_mk (Below.trod laidOut (by kernel_rfl) (of_decide_eq_true (by kernel_rfl)) k5 bel lt5) trodAll_mk0)))))), rfl, bel.frame _, fun h => by cases h⟩

theorem over : Rows.nodeForgotRow.holds Tryz.pinned (OpenSpec.ofChange Rows.nodeForgotSpec) :=
  OpenClaim.holds_of_wide 7 Tryz.f7 rfl rfl rfl rfl rfl rfl rfl ⟨rfl, rfl, rfl, rfl, rfl⟩ rfl rfl rfl rfl rfl (by kernel_rfl) Tryz.func7 (by kernel_rfl)
    (of_decide_eq_true (by kernel_rfl)) (by unfold Func.isWrapper; first | (rw [if_pos (by decide +kernel)]; kernel_rfl) | (rw [if_neg (by decide +kernel)]; exact ⟨rfl, rfl⟩))
    (fun os started H enc _ => lifted os started H enc)

theorem proved : Rows.NodeForgotSaid := over
end Go.Proofs.YtphlcbbdpmkipaaGreat.lawNodeForgot
