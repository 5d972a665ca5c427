/- Who is asked the time tells it, knowing or not. -/
import Derived.Test.YtphlcbbdpmkipaaGreatPkK
namespace Go.Proofs.YtphlcbbdpmkipaaGreat.lawNodePing
open Go.ChangeShapes Go.WideShapes Go.ChangeAt Go.RowKit
set_option linter.unusedVariables false

def runC (s : Nd) (c : Int) : Nat → Bool
  | 0 => s.clock == c
  | k + 1 => s.clock == c && chk s && runC s.tick.1 (c + 1) k
theorem tickN_tick (s : Nd) : ∀ k, tickN s.tick.1 k = tickN s (k + 1)
  | 0 => rfl
  | k + 1 => by
    show (tickN s.tick.1 k).tick.1 = (tickN s (k + 1)).tick.1
    rw [tickN_tick s k]
theorem runC_spec : ∀ (N : Nat) (s : Nd) (c : Int), runC s c N = true → (∀ k, k < N → chk (tickN s k) = true) ∧ ∀ k, k ≤ N → (tickN s k).clock = c + k
  | 0, s, c, h => by
    have h : (s.clock == c) = true := h
    refine ⟨fun k hk => by omega, fun k hk => ?_⟩
    obtain rfl : k = 0 := by omega
    show s.clock = c + ((0 : Nat) : Int)
    have : s.clock = c := by simpa using h
    omega
  | N + 1, s, c, h => by
    unfold runC at h
    simp only [Bool.and_eq_true, beq_iff_eq] at h
    obtain ⟨⟨h1, h2⟩, h3⟩ := h
    obtain ⟨i1, i2⟩ := runC_spec N s.tick.1 (c + 1) h3
    refine ⟨fun k hk => ?_, fun k hk => ?_⟩
    · cases k with
      | zero => exact h2
      | succ k => rw [← tickN_tick]; exact i1 k (by omega)
    · cases k with
      | zero => show s.clock = c + ((0 : Nat) : Int); omega
      | succ k => rw [← tickN_tick, i2 k (by omega)]; omega
theorem runs : ∀ n, n < 8 → 3 ≤ n → ∀ bo, bo < 3 → 1 ≤ bo → runC (Nd.make 2 (n : Nat) (bo : Nat) 0) 0 30 = true := by decide +kernel

theorem bare_boots {s : Nd} (h : Bare s) (m : Ms) : Bare (s.heard_ m) := ⟨h.L, h.p, h.c⟩
theorem chk_bare {s : Nd} (bs : Bare s) : Bare s := bs
def bareAll (s : Nd) : Nat → Bool
  | 0 => bareB s
  | k + 1 => bareB s && bareAll s.tick.1 k
theorem bareAll_spec : ∀ (N : Nat) (s : Nd), bareAll s N = true → ∀ k, k ≤ N → Bare (tickN s k)
  | 0, s, h => fun k hk => by
    obtain rfl : k = 0 := by omega
    exact bareB_iff h
  | N + 1, s, h => by
    unfold bareAll at h
    simp only [Bool.and_eq_true] at h
    intro k hk
    cases k with
    | zero => exact bareB_iff h.1
    | succ k => rw [← tickN_tick]; exact bareAll_spec N s.tick.1 h.2 k (by omega)
theorem bares : ∀ n, n < 8 → 3 ≤ n → ∀ bo, bo < 3 → 1 ≤ bo → bareAll (Nd.make 2 (n : Nat) (bo : Nat) 0) 30 = true := by decide +kernel
def keepAll (s : Nd) : Nat → Bool
  | 0 => s.id == 2 && s.boots == eightZ
  | k + 1 => s.id == 2 && s.boots == eightZ && keepAll s.tick.1 k
theorem keepAll_spec : ∀ (N : Nat) (s : Nd), keepAll s N = true → ∀ k, k ≤ N → (tickN s k).id = 2 ∧ (tickN s k).boots = eightZ
  | 0, s, h => fun k hk => by
    obtain rfl : k = 0 := by omega
    unfold keepAll at h
    show s.id = 2 ∧ s.boots = eightZ
    simpa using h
  | N + 1, s, h => by
    unfold keepAll at h
    simp only [Bool.and_eq_true, beq_iff_eq] at h
    intro k hk
    cases k with
    | zero => exact h.1
    | succ k => rw [← tickN_tick]; exact keepAll_spec N s.tick.1 h.2 k (by omega)
theorem keeps : ∀ n, n < 8 → 3 ≤ n → ∀ bo, bo < 3 → 1 ≤ bo → keepAll (Nd.make 2 (n : Nat) (bo : Nat) 0) 30 = true := by decide +kernel

def pingM (num : Int) : Ms := ⟨12, 1, 2, 1, 0, 0, 0, 0, [], 0, num, 0, false⟩
theorem ping_bare {s : Nd} (num : Int) (h : Bare s) : Bare ((s.heard_ (pingM num)).hear0 (pingM num)).1 := by
  have e : ((s.heard_ (pingM num)).hear0 (pingM num)).1 = s.heard_ (pingM num) := rfl
  rw [e]
  exact ⟨h.L, h.p, h.c⟩
theorem ping_may (num : Int) (m0 : 0 ≤ num) (m1 : num ≤ 1099511627776) : MayM (pingM num) := by
  refine ⟨?_, ?_, ?_, ?_, ?_, ?_, ?_, ?_, ?_, ?_, ?_, ?_, ?_, ?_, ?_, ?_, ?_, ?_, ?_, ?_, ?_, ?_, ?_, ?_, fun e he => by cases he⟩ <;> (first | (dsimp only [pingM]; omega) | (simp [pingM]; done) | (dsimp only [pingM]; decide))
theorem ping_hear {s : Nd} (num : Int) (hi : s.id = 2) (hb : s.boots = eightZ) : (s.hear (pingM num)).2 = [{ s.ms 13 1 with num := num, clock := s.clock }] ∧ (s.hear (pingM num)).1 = ({ s with boots := [0, 1, 0, 0, 0, 0, 0, 0] } : Nd).settle := by
  unfold Nd.hear
  rw [if_neg (by rw [hi, hb]; show ¬ (((2 : Int) != 2) || decide ((1 : Int) < 0)) = true; decide)]
  refine ⟨rfl, ?_⟩
  rw [hb]; rfl

theorem pfacts (n : Int) (bo : Nat) (h3 : 3 ≤ n) (h7 : n ≤ 7) (hb : bo < 2) : Ok 0 (Nd.make 2 n ((bo : Nat) + 1) 0) ∧ (∀ k, k < 30 → chk (tickN (Nd.make 2 n ((bo : Nat) + 1) 0) k) = true) ∧
    ∀ k, k ≤ 30 → (tickN (Nd.make 2 n ((bo : Nat) + 1) 0) k).clock = (k : Nat) ∧ Bare (tickN (Nd.make 2 n ((bo : Nat) + 1) 0) k) ∧ (tickN (Nd.make 2 n ((bo : Nat) + 1) 0) k).id = 2 ∧ (tickN (Nd.make 2 n ((bo : Nat) + 1) 0) k).boots = eightZ := by
  obtain ⟨m, rfl⟩ := Int.eq_ofNat_of_zero_le (show (0 : Int) ≤ n by omega)
  have e : ((bo : Nat) : Int) + 1 = ((bo + 1 : Nat) : Int) := by omega
  refine ⟨Ok.make (by omega) (by omega) (by omega) (by omega) (by omega) (by omega) (by omega) (by omega), ?_⟩
  rw [e]
  have r := runC_spec 30 _ 0 (by first | exact runs m (by omega) (by omega) (bo + 1) (by omega) (by omega) | exact runs m (by omega) (by omega) (bo + 1) (by omega) (by omega))
  have b := bareAll_spec 30 _ (bares m (by omega) (by omega) (bo + 1) (by omega) (by omega))
  have kp := keepAll_spec 30 _ (keeps m (by omega) (by omega) (bo + 1) (by omega) (by omega))
  exact ⟨r.1, fun k hk => ⟨by rw [r.2 k hk]; omega, b k hk, (kp k hk).1, (kp k hk).2⟩⟩

set_option maxRecDepth 100000 in
set_option maxHeartbeats 16000000 in
theorem walk (mm n num ticks : Int) (anew : Bool) (w : World) (hmm : w.cell? ⟨0, 0, none⟩ = some (.int .i64 mm)) (hn : I64 n) (hnum : I64 num) (htk : I64 ticks) : Calls Tryz.prog 4 #[.int .i64 n, .int .i64 num, .int .i64 ticks, .bool anew] w fun r w' => r = .returned (.bool true) ∧ Below w.heap.size w w' := by
  have hbeg := Lib.hid (b25_any w)
  clear hmm
  obtain ⟨hn1, hn2⟩ := hn
  obtain ⟨hnum1, hnum2⟩ := hnum
  obtain ⟨htk1, htk2⟩ := htk
  by_cases g : 3 ≤ n ∧ n ≤ 7 ∧ 0 ≤ num ∧ num ≤ 1099511627776 ∧ 0 ≤ ticks ∧ ticks ≤ 30
  case neg =>
    replace g := Lib.hid g
    go_enter Tryz.func4, Tryz.ntmps4
    go_wp2_with fail
    refine hbeg.out.mono ?_
    rintro r w1 ⟨rfl, hb1⟩
    replace hb1 := Lib.hid hb1
    by_cases g1 : n < 3
    · go_wp2
      go_ret
      exact ⟨rfl, hb1.out⟩
    by_cases g2 : n > 7
    · go_wp2
      go_ret
      exact ⟨rfl, hb1.out⟩
    by_cases g3 : num < 0
    · go_wp2
      go_ret
      exact ⟨rfl, hb1.out⟩
    by_cases g4 : num > 1099511627776
    · go_wp2
      go_ret
      exact ⟨rfl, hb1.out⟩
    by_cases g5 : ticks < 0
    · go_wp2
      go_ret
      exact ⟨rfl, hb1.out⟩
    by_cases g6 : ticks > 30
    · go_wp2
      go_ret
      exact ⟨rfl, hb1.out⟩
    exact absurd (by omega) g.out
  obtain ⟨n3, n7, m0, m1, t0, t1⟩ := g
  have g1 : ¬ n < 3 := by omega
  have g2 : ¬ n > 7 := by omega
  have g3 : ¬ num < 0 := by omega
  have g4 : ¬ num > 1099511627776 := by omega
  have g5 : ¬ ticks < 0 := by omega
  have g6 : ¬ ticks > 30 := by omega
  go_enter Tryz.func4, Tryz.ntmps4
  go_wp2_with fail
  refine hbeg.out.mono ?_
  rintro r w1 ⟨rfl, hb1⟩
  clear hbeg
  have hsz1 := hb1.size
  obtain ⟨W1, hW1⟩ : ∃ W, W = w1.alloc (.cells #[.int .i64 0, .int .i64 0] 26) := ⟨_, rfl⟩
  have hB1 : Below w.heap.size w W1 := hW1 ▸ hb1.alloc hsz1 _
  have hd1 : dkO W1 w1.heap.size 0 #[.int .i64 0, .int .i64 0] 26 0 0 := hW1 ▸ dkO_new w1 0
  obtain ⟨dk, hdk⟩ : ∃ dk, dk = w1.heap.size := ⟨_, rfl⟩
  rw [← hdk] at hd1
  have hdl := hdk ▸ hsz1
  replace hdk := Lib.hid hdk
  replace hW1 := Lib.hid hW1
  replace hb1 := Lib.hid hb1
  clear hsz1
  go_upto_region 7 with (fail)
  rw [← hW1.out, ← hdk.out]
  cases anew
  case' false =>
    obtain ⟨W2, bo, cs, hW2, hB2, hd2, hbo⟩ : ∃ (W2 : World) (bo : Nat) (cs : Array Value), W2 = W1 ∧ Below w.heap.size w W2 ∧ dkO W2 dk 0 cs 26 ((bo : Nat) : Int) 0 ∧ bo < 2 := ⟨W1, 0, _, rfl, hB1, hd1, by omega⟩
    rw [← hW2]
    replace hW2 := Lib.hid hW2
  case' true =>
    have hS := Lib.hid (dStart_any dk 0 0 W1 ((cell_at hd1.1 0).trans hd1.2.1) (free_at hd1.1 0) (by omega) (by omega))
    obtain ⟨W2, bo, cs, hW2, hB2, hd2, hbo⟩ : ∃ (W2 : World) (bo : Nat) (cs : Array Value), W2 = W1.setCell ⟨dk, 0, none⟩ (.int .i64 (0 + 1)) ∧ Below w.heap.size w W2 ∧ dkO W2 dk 0 cs 26 ((bo : Nat) : Int) 0 ∧ bo < 2 := ⟨_, 1, _, rfl, hB1.setCell hdl _, ⟨set_at hd1.1, rfl, rfl⟩, by omega⟩
    replace hd1 := Lib.hid hd1
    replace hW2 := Lib.hid hW2
    go_wp2_with fail
    refine hS.out.mono ?_
    rintro r wx ⟨rfl, rfl⟩
    rw [← hW2.out]
  all_goals
    have hMk := Lib.hid (pxMake W2 2 n ((bo : Nat) : Int) 0 dk cs _ w hdl hB2 hd2 n3 n7 (by omega) (by omega) (by omega) (by omega) (by omega) (by omega))
    obtain ⟨hOk, hChk, hF⟩ := pfacts n bo n3 n7 hbo
    obtain ⟨S, hS0⟩ : ∃ S, S = Nd.make 2 n ((bo : Nat) + 1) 0 := ⟨_, rfl⟩
    rw [← hS0] at hMk hOk hChk hF
    replace hS0 := Lib.hid hS0
    replace hOk := Lib.hid hOk
    replace hChk := Lib.hid hChk
    replace hF := Lib.hid hF
    replace hB2 := Lib.hid hB2
    replace hd2 := Lib.hid hd2
    replace hB1 := Lib.hid hB1
    go_wp2_with fail
    refine hMk.out.mono ?_
    rintro r w2 ⟨own2, b, rfl, p2, _, _⟩
    replace p2 := Lib.hid p2
    clear hMk
    go_wp2
    go_loopw [13] (fun i wr => ∃ (k : Nat) (own : Nat → Nat), (k : Int) ≤ ticks ∧ i = .int .i64 k ∧ PX own w wr b dk (tickN S k)) (fun i _ => ticks.toNat - (intOf i).toNat)
    case atStart => exact ⟨0, own2, by omega, rfl, p2.out⟩
    case round =>
      obtain ⟨k, own, hk, rfl, pk⟩ := hrel
      by_cases hlt : (k : Int) < ticks
      · have hcall := Lib.hid (pxTickC pk k (ok_tickN hOk.out k fun j hj => hChk.out j (by omega)) (by omega) (hChk.out k (by omega)))
        clear pk
        go_wp2_with fail
        refine hcall.out.mono ?_
        rintro r w4 ⟨v4, own4, o4, rfl, p4, k4, q4, e4⟩
        replace p4 := Lib.hid p4
        clear hcall k4 q4 e4
        go_wp2
        go_roundw
        case rel => exact ⟨k + 1, own4, by omega, by go_num, p4.out⟩
        case measure => simp [intOf]; omega
      · obtain ⟨hc, hb, hi, hbo8⟩ := hF.out k (by omega)
        replace hc : (tickN S k).clock = ticks := by omega
        obtain ⟨T, hT⟩ : ∃ T, T = tickN S k := ⟨_, rfl⟩
        rw [← hT] at pk hc hb hi hbo8
        replace hT := Lib.hid hT
        replace pk := Lib.hid pk
        replace hc := Lib.hid hc
        replace hb := Lib.hid hb
        replace hi := Lib.hid hi
        replace hbo8 := Lib.hid hbo8
        go_wp2_with fail
        refine (from25_any _ _ _ _ _).mono ?_
        rintro r w4 ⟨rfl, hb4⟩
        obtain ⟨p4, _⟩ := pk.out.grow hb4
        replace p4 := Lib.hid p4
        clear pk hb4
        have hA := (Below.refl w4.heap.size w4).alloc (Nat.le_refl _) (.cells #[.int .i64 12, .int .i64 1, .int .i64 2, .int .i64 1, .int .i64 0, .int .i64 0, .int .i64 0, .int .i64 0, .slice none 0 0, .int .i64 0, .int .i64 num, .int .i64 0, .bool false] 36)
        obtain ⟨p5, _⟩ := p4.out.grow hA
        have hm : MayM (pingM num) := ping_may num m0 m1
        obtain ⟨hh1, hh2⟩ := ping_hear num hi.out hbo8.out
        have hcall := Lib.hid (hear25_any p5 (pingM num) none 0 ⟨none, 0, rfl, Nat.le_refl _, Nat.zero_le _, fun h => absurd h (Nat.lt_irrefl 0)⟩ hm (T.hear (pingM num)).1 (T.hear (pingM num)).2
          (fun v w1 q hr => pxHear q v (pingM num) hr hm (fun _ _ => ping_bare num hb.out) (fun e => absurd rfl e) (fun e => absurd rfl e)))
        clear hA p5
        go_wp2_with fail
        refine hcall.out.mono ?_
        rintro r w6 ⟨v6, own6, o6, rfl, p6, k6, q6, e6⟩
        obtain ⟨ad, cp, rfl, had⟩ := q6.len e6
        rw [hh1] at had e6 q6 ⊢
        obtain ⟨g, off, rfl, hgl⟩ := had (by show 0 < 1; omega)
        have x0 := q6.cell e6 g off rfl 0 (by show 0 < 1; omega) 0 (.int .i64 13) (by omega) rfl
        have x2 := q6.cell e6 g off rfl 0 (by show 0 < 1; omega) 2 (.int .i64 1) (by omega) rfl
        have x10 := q6.cell e6 g off rfl 0 (by show 0 < 1; omega) 10 (.int .i64 num) (by omega) rfl
        have x11 := q6.cell e6 g off rfl 0 (by show 0 < 1; omega) 11 (.int .i64 T.clock) (by omega) rfl
        rw [hc.out] at x11
        simp only [Nat.zero_mul, Nat.add_zero] at x0 x2 x10 x11
        have hC := Lib.hid (pxClock p6)
        rw [show (T.hear (pingM num)).1.clock = ticks from by rw [hh2]; exact hc.out] at hC
        have hfin := Lib.hid p6.bel
        replace hh1 := Lib.hid hh1
        replace hh2 := Lib.hid hh2
        clear hcall k6 q6 e6 p6 had
        go_wp2_with fail
        refine hC.out.mono ?_
        rintro r wa ⟨rfl, rfl⟩
        go_wp2
        go_ret
        exact ⟨rfl, hfin.out⟩

/-! the row's step, written out by law.py -/
set_option maxRecDepth 100000 in
theorem lifted (os : Os) (started : os.Started) (H : Type) (enc : TypeId × Value → H) :
    ReturnsInHanded {} Tryz.checked os 4 .any (Rows.nodePingSpec.pre6 enc Tryz.prog Tryz.f4 Rows.nodePingRow.domain false) (Rows.nodePingSpec.post enc Tryz.prog Tryz.f4 false true false false) := by
  refine returnsInHanded_of_change_shaped (C := Tryz.checked) own started (by kernel_rfl) Tryz.func4
    (ChangeSpec.witness6 (enc := enc) (C := Tryz.checked) false ⟨#[], #[.int .i64 0, .int .i64 0, .int .i64 0, .bool false], []⟩ 8 (by kernel_rfl) (by kernel_rfl) (by kernel_rfl) (by kernel_rfl)) ?_
  intro W base args ds gs before hval0 hW hcnd _ hsh _
  have hval : ∀ (j : Nat) t v, Tryz.f4.params[j]? = some t → args[j]? = some v → Value.okWide Tryz.prog W .any base t v := hval0
  have hW' := hW
  obtain ⟨p, q, hA0, hV, rfl, hfz, hnd⟩ := hW
  have hA : DataW.TrodAll enc Tryz.prog W 0 (fun _ => true) true Tryz.f4.params.toList args.toList ds p := hA0
  rw [Tryz.params4] at hA hval
  obtain ⟨v0, vs0, d0, ds0, p0, q0, hargs, rfl, rfl, h0, r0⟩ := trodAll_cons hA
  obtain ⟨v1, vs1, d1, ds1, p1, q1, rfl, rfl, rfl, h1, r1⟩ := trodAll_cons r0
  obtain ⟨v2, vs2, d2, ds2, p2, q2, rfl, rfl, rfl, h2, r2⟩ := trodAll_cons r1
  obtain ⟨v3, vs3, d3, ds3, p3, q3, rfl, rfl, rfl, h3, r3⟩ := trodAll_cons r2
  obtain ⟨rfl, rfl, rfl⟩ := trodAll_nil r3
  obtain rfl : args = #[v0, v1, v2, v3] := by cases args; simp_all
  obtain ⟨rfl, rfl⟩ := trodVars_none hV
  have k0 := h0
  have lt0 : ∀ x ∈ p0, x.block < W.heap.size := by obtain ⟨m, hm⟩ := k0; exact DataW.trod_lt m _ _ _ hm
  have k1 := h1
  have lt1 : ∀ x ∈ p1, x.block < W.heap.size := by obtain ⟨m, hm⟩ := k1; exact DataW.trod_lt m _ _ _ hm
  have k2 := h2
  have lt2 : ∀ x ∈ p2, x.block < W.heap.size := by obtain ⟨m, hm⟩ := k2; exact DataW.trod_lt m _ _ _ hm
  have k3 := h3
  have lt3 : ∀ x ∈ p3, x.block < W.heap.size := by obtain ⟨m, hm⟩ := k3; exact DataW.trod_lt m _ _ _ hm
  obtain ⟨a0, rfl, rfl, rfl, w0⟩ := open_int Tryz.underlying3 (hval 0 3 v0 rfl rfl) h0
  have w0 := bounds_i64 w0
  obtain ⟨a1, rfl, rfl, rfl, w1⟩ := open_int Tryz.underlying2 (hval 1 2 v1 rfl rfl) h1
  have w1 := bounds_i64 w1
  obtain ⟨a2, rfl, rfl, rfl, w2⟩ := open_int Tryz.underlying3 (hval 2 3 v2 rfl rfl) h2
  have w2 := bounds_i64 w2
  obtain ⟨a3, rfl, rfl, rfl⟩ := open_bool Tryz.underlying4 (hval 3 4 v3 rfl rfl) h3
  clear hA0 hval0
  simp only [List.append_nil] at hW'
  obtain ⟨m, hm⟩ := maxLen_cell W hsh
  refine (walk m a0 a1 a2 a3 W hm w0 w1 w2).mono fun e W' ⟨he, bel⟩ => ?_
  subst he
  exact ⟨_, rfl, _, _, _, [], _, [], hW', trodAll_mk1 (shut_bool Tryz.underlying4 _), (trodAll_cons_mk (Below.trod laidOut (by kernel_rfl) (of_decide_eq_true (by kernel_rfl)) k0 bel lt0) (trodAll_cons_mk (Below.trod laidOut (by kernel_rfl) (of_decide_eq_true (by kernel_rfl)) k1 bel lt1) (trodAll_cons_mk (Below.trod laidOut (by kernel_rfl) (of_decide_eq_true (by kernel_rfl)) k2 bel lt2) (trodAll_cons_mk (Below.trod laidOut (by kernel_rfl) (of_decide_eq_true (by kernel_rfl)) k3 bel lt3) trodAll_mk0)))), rfl, bel.frame _, fun h => by cases h⟩

theorem over : Rows.nodePingRow.holds Tryz.pinned (OpenSpec.ofChange Rows.nodePingSpec) :=
  OpenClaim.holds_of_wide 4 Tryz.f4 rfl rfl rfl rfl rfl rfl rfl ⟨rfl, rfl, rfl, rfl, rfl⟩ rfl rfl rfl rfl rfl (by kernel_rfl) Tryz.func4 (by kernel_rfl)
    (of_decide_eq_true (by kernel_rfl)) (by unfold Func.isWrapper; first | (rw [if_pos (by decide +kernel)]; kernel_rfl) | (rw [if_neg (by decide +kernel)]; exact ⟨rfl, rfl⟩))
    (fun os started H enc _ => lifted os started H enc)

theorem proved : Rows.NodePingSaid := over
end Go.Proofs.YtphlcbbdpmkipaaGreat.lawNodePing
