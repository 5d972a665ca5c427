/- Who was denied proposes a view above the one that it was denied by, with its next tick. -/
import Derived.Test.YtphlcbbdpmkipaaGreatPkM
namespace Go.Proofs.YtphlcbbdpmkipaaGreat.lawNodeDenied
open Go.ChangeShapes Go.WideShapes Go.ChangeAt Go.RowKit
set_option linter.unusedVariables false

/-- what is known of the process when its patience was at its end -/
def denF (id n : Nat) (s : Nd) : Bool :=
  s.knows && !s.in_ && s.id == id && s.n == n && bareB s && s.denied == 0 && s.boots == eightZ && s.clock == 8 + 2 * id && !s.again && !({ s with clock := s.clock + 1 } : Nd).late && decide (0 ≤ s.dv) && decide (s.dv ≤ 1000) && (s.others s.all).length + 1 == n &&
    (match s.v with | some (u, l) => u == s.dv && !mostT (teamV (mkV l) : Nat) n | none => false)
def denR (id n : Nat) : Bool :=
  let S := Nd.make id n 1 0
  runP (fun _ s => chk s) (8 + 2 * id) 0 S && denF id n (tickN S (8 + 2 * id))
theorem dens : ∀ n, n < 8 → 3 ≤ n → ∀ id, id < 8 → 1 ≤ id → id ≤ n → denR id n = true := by decide +kernel
def upB (id n u : Nat) : Bool := let v := upV id n 7 (u + 1 : Nat); decide ((u : Int) < v) && decide (v ≤ u + n) && decT v n == id
theorem ups : ∀ n, n < 8 → 3 ≤ n → ∀ id, id < 8 → 1 ≤ id → id ≤ n → ((List.range 1001).all fun u => upB id n u) = true := by decide +kernel

def denM (id n u : Int) : Ms := frM 2 (1 + id % n) id u
theorem den_may (id n u : Int) (h3 : 3 ≤ n) (h7 : n ≤ 7) (i1 : 1 ≤ id) (i2 : id ≤ n) (u0 : 0 ≤ u) (u1 : u ≤ 1000) : MayM (denM id n u) := by
  have h1 : 0 ≤ id % n := Int.emod_nonneg _ (by omega)
  have h2 : id % n < n := Int.emod_lt_of_pos _ (by omega)
  have h4 : id % n ≠ id - 1 := by
    intro e
    by_cases hx : id = n
    · rw [hx, Int.emod_self] at e; omega
    · rw [Int.emod_eq_of_lt (by omega) (by omega)] at e; omega
  generalize hq : id % n = q at h1 h2 h4
  refine ⟨?_, ?_, ?_, ?_, ?_, ?_, ?_, ?_, ?_, ?_, ?_, ?_, ?_, ?_, ?_, ?_, ?_, ?_, ?_, ?_, ?_, ?_, ?_, ?_, fun e he => by cases he⟩ <;> unfold denM <;> rw [hq] <;> (first | (dsimp only; omega) | (simp; done) | (dsimp only; decide))
theorem eightZ_get (k : Nat) : eightZ.getD k 0 = 0 := by
  match k with
  | 0 | 1 | 2 | 3 | 4 | 5 | 6 | 7 => rfl
  | n + 8 => rfl
/-- the state that hears the denial, and what its next tick does -/
theorem den_hear (id n : Int) (u : Int) (s : Nd) (bs : List Int) (hbs : bs = s.boots.set (1 + id % n).toNat 1) (hk : s.knows = true) (hid : s.id = id) (hb : Bare s) (hbo : s.boots = eightZ) (hd0 : s.denied = 0) (u0 : 0 ≤ u) {uv : Int} {l : List Vt} (hv : s.v = some (uv, l)) :
    s.hear (denM id n u) = (if s.dv < u then { s with boots := bs, denied := u, again := true } else { s with boots := bs }, []) ∧ Bare ((s.heard_ (denM id n u)).hear0 (denM id n u)).1 := by
  have e0 : (s.heard_ (denM id n u)) = { s with boots := bs } := by subst hbs; rfl
  have e1 : (s.heard_ (denM id n u)).hears (denM id n u) = (if s.dv < u then { s with boots := bs, denied := u, again := true } else { s with boots := bs }, []) := by
    rw [e0]
    show (if s.v.isSome && decide (s.dv < u) then ({ s with boots := bs, denied := max s.denied u, again := true } : Nd) else ({ s with boots := bs } : Nd), ([] : List Ms)) = _
    rw [hv, hd0, Int.max_eq_right u0]
    by_cases h : s.dv < u
    · rw [if_pos h, if_pos (by simpa using h)]
    · rw [if_neg h, if_neg (by simpa using h)]
  have e2 : (s.heard_ (denM id n u)).hear0 (denM id n u) = (s.heard_ (denM id n u)).hears (denM id n u) := by
    unfold Nd.hear0
    rw [if_neg (by show ¬ ((2 : Int) == 12) = true; decide), if_neg (by rw [e0]; show ¬ (!s.knows) = true; rw [hk]; decide)]
  have hB : Bare (if s.dv < u then ({ s with boots := bs, denied := u, again := true } : Nd) else ({ s with boots := bs } : Nd)) := by
    split
    · exact ⟨hb.L, hb.p, hb.c⟩
    · exact ⟨hb.L, hb.p, hb.c⟩
  refine ⟨?_, by rw [e2, e1]; exact hB⟩
  unfold Nd.hear
  rw [if_neg (by show ¬ ((id != s.id) || decide ((1 : Int) < s.boots.getD (1 + id % n).toNat 0)) = true; rw [hbo, eightZ_get, hid]; simp)]
  show ((({ s with boots := s.boots.set (1 + id % n).toNat 1 } : Nd).hear0 (denM id n u)).1.settle, (({ s with boots := s.boots.set (1 + id % n).toNat 1 } : Nd).hear0 (denM id n u)).2) = _
  have e3 : ({ s with boots := s.boots.set (1 + id % n).toNat 1 } : Nd) = s.heard_ (denM id n u) := rfl
  rw [e3, e2, e1, settle_bare hB]
theorem chk_of {s : Nd} (h1 : s.in_ = false) (h2 : s.knows = true) (h3 : Bare ({ s with clock := s.clock + 1 } : Nd).tick0.1) : chk s = true := by
  unfold chk bareB
  rw [h3.L, h3.p, h3.c, h1, h2]; rfl
theorem den_tick (id n u : Int) (s : Nd) (bs : List Int) (hk : s.knows = true) (hin : s.in_ = false) (hb : Bare s) {l : List Vt} (hv : s.v = some (s.dv, l)) (hm : mostT (teamV (mkV l) : Nat) s.n = false) (hag : s.again = false)
    (hl : ({ s with clock := s.clock + 1 } : Nd).late = false) (d0 : 0 ≤ s.dv) (d1 : s.dv ≤ 1000) (u1 : u ≤ 1000) (hid : s.id = id) (hn : s.n = n) (s1 : Nd) (h1 : s1 = if s.dv < u then { s with boots := bs, denied := u, again := true } else { s with boots := bs })
    (hU : u < upV id n 7 (u + 1) ∧ upV id n 7 (u + 1) ≤ u + n ∧ n ≤ 7) :
    chk s1 = true ∧ (u ≤ s.dv → s1.tick.1.dv = s.dv) ∧ (s.dv < u → s1.tick.1.dv = upV id n 7 (u + 1) ∧ s1.tick.2.length = (s.others s.all).length ∧ ∀ k (h : k < s1.tick.2.length), (s1.tick.2[k]).view = upV id n 7 (u + 1)) := by
  by_cases h : s.dv < u
  · rw [if_pos h] at h1
    have e : ({ s1 with clock := s1.clock + 1 } : Nd).nextV = upV id n 7 (u + 1) := by
      subst h1
      show upV s.id s.n 7 (max s.dv u + 1) = _
      rw [hid, hn, Int.max_eq_right (by omega)]
    have t : ({ s1 with clock := s1.clock + 1 } : Nd).tick0 = (({ s1 with clock := s1.clock + 1 } : Nd).proposes, (s.others s.all).map fun k => { s.ms 1 k with view := upV id n 7 (u + 1) }) := by
      have e1 : ({ s1 with clock := s1.clock + 1 } : Nd).tick0 = ({ s1 with clock := s1.clock + 1 } : Nd).propose := by
        subst h1
        rw [Nd.tick0_knows (by exact hk) (by exact hin)]
        show (match s.v with | some (u, l) => _ | none => _) = _
        rw [hv]
        show (if s.dv == s.dv then _ else _) = _
        rw [if_pos (by simp)]
        unfold Nd.gather
        rw [if_neg (by show ¬ mostT (teamV (mkV l) : Nat) s.n = true; rw [hm]; decide), if_pos (by show (true || _) = true; rfl)]
      rw [e1]
      unfold Nd.propose
      rw [e, if_neg (by rw [h1]; show ¬ (upV id n 7 (u + 1) ≤ s.dv ∨ 1099511627776 < upV id n 7 (u + 1)); omega)]
      subst h1
      rfl
    have tb : Bare ({ s1 with clock := s1.clock + 1 } : Nd).tick0.1 := by
      rw [t]; subst h1
      exact ⟨hb.L, hb.p, hb.c⟩
    have tt : s1.tick = (({ s1 with clock := s1.clock + 1 } : Nd).proposes, (s.others s.all).map fun k => { s.ms 1 k with view := upV id n 7 (u + 1) }) := by
      show (({ s1 with clock := s1.clock + 1 } : Nd).tick0.1.settle, ({ s1 with clock := s1.clock + 1 } : Nd).tick0.2) = _
      rw [settle_bare tb, t]
    refine ⟨?_, fun h2 => by omega, fun _ => ⟨?_, ?_, ?_⟩⟩
    · exact chk_of (by subst h1; exact hin) (by subst h1; exact hk) tb
    · rw [tt]; exact e
    · rw [tt]; simp
    · rw [tt]; intro k hk; simp
  · rw [if_neg h] at h1
    have t : ({ s1 with clock := s1.clock + 1 } : Nd).tick0.1 = { s1 with clock := s1.clock + 1 } := by
      subst h1
      rw [Nd.tick0_knows (by exact hk) (by exact hin)]
      show (match s.v with | some (u, l) => _ | none => _ : Nd × List Ms).1 = _
      rw [hv]
      show (if s.dv == s.dv then _ else _ : Nd × List Ms).1 = _
      rw [if_pos (by simp)]
      unfold Nd.gather
      rw [if_neg (by show ¬ mostT (teamV (mkV l) : Nat) s.n = true; rw [hm]; decide), if_neg (by show ¬ (s.again || ({ s with boots := bs, clock := s.clock + 1 } : Nd).late) = true; rw [hag]; show ¬ ({ s with clock := s.clock + 1 } : Nd).late = true; rw [hl]; decide)]
    have tb : Bare ({ s1 with clock := s1.clock + 1 } : Nd).tick0.1 := by
      rw [t]; subst h1
      exact ⟨hb.L, hb.p, hb.c⟩
    refine ⟨?_, fun _ => ?_, fun h2 => by omega⟩
    · exact chk_of (by subst h1; exact hin) (by subst h1; exact hk) tb
    · show ({ s1 with clock := s1.clock + 1 } : Nd).tick0.1.settle.dv = _
      rw [settle_bare tb, t]
      subst h1; rfl
theorem facts (id n u : Int) (h3 : 3 ≤ n) (h7 : n ≤ 7) (i1 : 1 ≤ id) (i2 : id ≤ n) (u0 : 0 ≤ u) (u1 : u ≤ 1000) : ∃ (N : Nat) (s s1 : Nd) (V : Int), (N : Int) = 8 + 2 * id ∧ s = tickN (Nd.make id n 1 0) N ∧ Ok 0 (Nd.make id n 1 0) ∧
    (∀ k, k < N → chk (tickN (Nd.make id n 1 0) k) = true) ∧ Ok N s ∧ Ok N s1 ∧ s.knows = true ∧ s.hear (denM id n u) = (s1, []) ∧ Bare ((s.heard_ (denM id n u)).hear0 (denM id n u)).1 ∧ chk s1 = true ∧ (u ≤ s.dv → s1.tick.1.dv = s.dv) ∧
    (s.dv < u → s1.tick.1.dv = V ∧ (s1.tick.2.length : Int) = n - 1 ∧ u < V ∧ V ≤ u + n ∧ decT V n = id ∧ ∀ k (h : k < s1.tick.2.length), (s1.tick.2[k]).view = V) ∧ 0 ≤ s.dv ∧ s.dv ≤ 1000 := by
  obtain ⟨n, rfl⟩ := Int.eq_ofNat_of_zero_le (show (0 : Int) ≤ n by omega)
  obtain ⟨id, rfl⟩ := Int.eq_ofNat_of_zero_le (show (0 : Int) ≤ id by omega)
  obtain ⟨u, rfl⟩ := Int.eq_ofNat_of_zero_le u0
  have h := dens n (by omega) (by omega) id (by omega) (by omega) (by omega)
  have hu := List.all_eq_true.1 (ups n (by omega) (by omega) id (by omega) (by omega) (by omega)) u (List.mem_range.2 (by omega))
  unfold upB at hu
  simp only [Bool.and_eq_true, beq_iff_eq, decide_eq_true_eq] at hu
  obtain ⟨⟨hu1, hu2⟩, hu3⟩ := hu
  have hok : Ok 0 (Nd.make (id : Int) (n : Int) 1 0) := Ok.make (by omega) (by omega) (by omega) (by omega) (by omega) (by omega) (by omega) (by omega)
  unfold denR at h
  rw [Bool.and_eq_true] at h
  obtain ⟨hr, hF⟩ := h
  have hr : ∀ k, k < 8 + 2 * id → chk (tickN (Nd.make id n 1 0) k) = true := fun k hk => runP0 hr k hk
  have o1 := ok_tickN hok (8 + 2 * id) hr
  generalize hs : tickN (Nd.make id n 1 0) (8 + 2 * id) = s at hF o1
  unfold denF at hF
  simp only [Bool.and_eq_true, beq_iff_eq, decide_eq_true_eq, Bool.not_eq_true'] at hF
  obtain ⟨⟨⟨⟨⟨⟨⟨⟨⟨⟨⟨⟨⟨f1, f2⟩, f3⟩, f4⟩, f5⟩, f6⟩, f7⟩, f8⟩, f9⟩, f10⟩, f11⟩, f12⟩, f13⟩, f14⟩ := hF
  have fb := bareB_iff f5
  cases hv : s.v with
  | none => rw [hv] at f14; cases f14
  | some ul =>
    obtain ⟨uv, l⟩ := ul
    rw [hv] at f14
    simp only [Bool.and_eq_true, beq_iff_eq, Bool.not_eq_true'] at f14
    obtain ⟨rfl, hm⟩ := f14
    obtain ⟨g1, g2⟩ := den_hear id n u s _ rfl f1 f3 fb f7 f6 u0 hv
    have e7 : ((u + 1 : Nat) : Int) = (u : Int) + 1 := by omega
    rw [e7] at hu1 hu2 hu3
    obtain ⟨t1, t2, t3⟩ := den_tick id n u s (s.boots.set (1 + (id : Int) % n).toNat 1) f1 f2 fb hv (by rw [f4]; exact hm) f9 f10 f11 f12 u1 f3 f4 _ rfl ⟨hu1, hu2, h7⟩
    have o2 := Ok.hear o1 (denM id n u) (by
      rw [if_neg (by show ¬ ((2 : Int) == 12) = true; decide), if_neg (by rw [f1]; decide)]
      have e1 : (({ s with boots := s.boots.set (denM id n u).frm.toNat (denM id n u).boot } : Nd).hears (denM id n u)).1 = (s.hear (denM id n u)).1 := by
        rw [g1]
        show (if s.v.isSome && decide (s.dv < (u : Int)) then ({ s with boots := s.boots.set (1 + (id : Int) % n).toNat 1, denied := max s.denied u, again := true } : Nd) else ({ s with boots := s.boots.set (1 + (id : Int) % n).toNat 1 } : Nd)) = _
        rw [hv, f6, Int.max_eq_right u0]
        by_cases h : s.dv < (u : Int)
        · rw [if_pos h, if_pos (by simpa using h)]
        · rw [if_neg h, if_neg (by simpa using h)]
      rw [e1, g1]
      show Ok (8 + 2 * id) (if s.dv < (u : Int) then _ else _)
      split
      · exact { o1 with e0 := u0, e1 := by show (u : Int) ≤ 1099511627776; omega }
      · exact { o1 with })
    rw [g1] at o2
    refine ⟨8 + 2 * id, s, _, upV id n 7 (u + 1), by omega, hs.symm, hok, hr, o1, o2, f1, g1, g2, t1, t2, fun hlt => ?_, f11, f12⟩
    obtain ⟨t4, t5, t6⟩ := t3 hlt
    exact ⟨t4, by rw [t5]; omega, hu1, hu2, hu3, t6⟩

set_option maxRecDepth 100000 in
set_option maxHeartbeats 16000000 in
theorem walk (mm id n u : Int) (w : World) (hmm : w.cell? ⟨0, 0, none⟩ = some (.int .i64 mm)) (hid : I64 id) (hn : I64 n) (hu : I64 u) : Calls Tryz.prog 6 #[.int .i64 id, .int .i64 n, .int .i64 u] w fun r w' => r = .returned (.bool true) ∧ Below w.heap.size w w' := by
  have hbeg := Lib.hid (b25_any w)
  clear hmm
  obtain ⟨hn1, hn2⟩ := hn
  obtain ⟨hid1, hid2⟩ := hid
  obtain ⟨hu1, hu2⟩ := hu
  by_cases g : 3 ≤ n ∧ n ≤ 7 ∧ 1 ≤ id ∧ id ≤ n ∧ 0 ≤ u ∧ u ≤ 1000
  case neg =>
    replace g := Lib.hid g
    go_enter Tryz.func6, Tryz.ntmps6
    go_wp2_with fail
    refine hbeg.out.mono ?_
    rintro r w1 ⟨rfl, hb1⟩
    replace hb1 := Lib.hid hb1
    by_cases g1 : n < 3
    · go_wp2
      go_ret
      exact ⟨rfl, hb1.out⟩
    by_cases g2 : n > 7
    · go_wp2
      go_ret
      exact ⟨rfl, hb1.out⟩
    by_cases g3 : id < 1
    · go_wp2
      go_ret
      exact ⟨rfl, hb1.out⟩
    by_cases g4 : id > n
    · go_wp2
      go_ret
      exact ⟨rfl, hb1.out⟩
    by_cases g5 : u < 0
    · go_wp2
      go_ret
      exact ⟨rfl, hb1.out⟩
    by_cases g6 : u > 1000
    · go_wp2
      go_ret
      exact ⟨rfl, hb1.out⟩
    exact absurd (by omega) g.out
  obtain ⟨n3, n7, i1, i2, u0, u1⟩ := g
  have g1 : ¬ n < 3 := by omega
  have g2 : ¬ n > 7 := by omega
  have g3 : ¬ id < 1 := by omega
  have g4 : ¬ id > n := by omega
  have g5 : ¬ u < 0 := by omega
  have g6 : ¬ u > 1000 := by omega
  go_enter Tryz.func6, Tryz.ntmps6
  go_wp2_with fail
  refine hbeg.out.mono ?_
  rintro r w1 ⟨rfl, hb1⟩
  clear hbeg
  have hsz1 := hb1.size
  obtain ⟨W1, hW1⟩ : ∃ W, W = w1.alloc (.cells #[.int .i64 0, .int .i64 0] 26) := ⟨_, rfl⟩
  have hB1 : Below w.heap.size w W1 := hW1 ▸ hb1.alloc hsz1 _
  have hd1 : dkO W1 w1.heap.size 0 #[.int .i64 0, .int .i64 0] 26 0 0 := hW1 ▸ dkO_new w1 0
  obtain ⟨dk, hdk⟩ : ∃ dk, dk = w1.heap.size := ⟨_, rfl⟩
  rw [← hdk] at hd1
  have hdl := hdk ▸ hsz1
  replace hdk := Lib.hid hdk
  replace hW1 := Lib.hid hW1
  replace hb1 := Lib.hid hb1
  clear hsz1
  have hMk := Lib.hid (pxMake W1 id n 0 0 dk _ _ w hdl hB1 hd1 n3 n7 (by omega) (by omega) (by omega) (by omega) (by omega) (by omega))
  obtain ⟨N, s0, s1, V, hN, hs0, hok, hrun, hok0, hok1, hkn, hhear, hbare, hc1, hle, hgt, hv0, hv1⟩ := facts id n u n3 n7 i1 i2 u0 u1
  have hmay := Lib.hid (den_may id n u n3 n7 i1 i2 u0 u1)
  obtain ⟨S, hS0⟩ : ∃ S, S = Nd.make id n 1 0 := ⟨_, rfl⟩
  rw [show (0 : Int) + 1 = 1 from rfl, ← hS0] at hMk
  rw [← hS0] at hs0 hok hrun
  replace hS0 := Lib.hid hS0
  replace hs0 := Lib.hid hs0
  replace hok := Lib.hid hok
  replace hrun := Lib.hid hrun
  replace hok0 := Lib.hid hok0
  replace hok1 := Lib.hid hok1
  replace hkn := Lib.hid hkn
  replace hhear := Lib.hid hhear
  replace hbare := Lib.hid hbare
  replace hc1 := Lib.hid hc1
  replace hle := Lib.hid hle
  replace hgt := Lib.hid hgt
  replace hN := Lib.hid hN
  replace hd1 := Lib.hid hd1
  replace hB1 := Lib.hid hB1
  go_upto_region 7 with (fail)
  rw [← hW1.out, ← hdk.out]
  go_wp2_with fail
  refine hMk.out.mono ?_
  rintro r w2 ⟨own2, b, rfl, p2, _, _⟩
  replace p2 := Lib.hid p2
  clear hMk
  go_wp2
  go_loopw [11] (fun i wr => ∃ (k : Nat) (own : Nat → Nat), k ≤ N ∧ i = .int .i64 k ∧ PX own w wr b dk (tickN S k)) (fun i _ => N - (intOf i).toNat)
  case atStart => exact ⟨0, own2, by omega, rfl, p2.out⟩
  case round =>
    obtain ⟨k, own, hk, rfl, pk⟩ := hrel
    by_cases hlt : k < N
    · have hg1 : ((k : Int) < 8 + 2 * id) := by have := hN.out; omega
      have hcall := Lib.hid (pxTickC pk k (ok_tickN hok.out k fun j hj => hrun.out j (by omega)) (by have := hN.out; omega) (hrun.out k hlt))
      clear pk
      go_wp2_with fail
      refine hcall.out.mono ?_
      rintro r w4 ⟨v4, own4, o4, rfl, p4, k4, q4, e4⟩
      replace p4 := Lib.hid p4
      clear hcall k4 q4 e4
      go_wp2
      go_roundw
      case rel => exact ⟨k + 1, own4, by omega, by go_num, p4.out⟩
      case measure => simp [intOf]; omega
    · obtain rfl : k = N := by omega
      have hg1 : ¬ ((k : Int) < 8 + 2 * id) := by have := hN.out; omega
      rw [← hs0.out] at pk
      have hD := Lib.hid (pxDisk pk)
      have hk99 : k < 1000 := by have := hN.out; omega
      replace pk := Lib.hid pk
      have hmod : ((id.tmod n : Int)) = id % n := Int.tmod_eq_emod_of_nonneg (by omega)
      have hm0 : 0 ≤ id % n := Int.emod_nonneg _ (by omega)
      have hm1 : id % n < n := Int.emod_lt_of_pos _ (by omega)
      go_wp2_with fail
      refine hD.out.mono ?_
      rintro r wx ⟨rfl, rfl⟩
      clear hD
      go_wp2_with fail
      refine (from25_any _ _ _ _ _).mono ?_
      rintro r w4 ⟨rfl, hb4⟩
      obtain ⟨p4, _⟩ := pk.out.grow hb4
      have hcall := Lib.hid (hear25_any p4 (denM id n u) none 0 ⟨none, 0, rfl, Nat.le_refl _, Nat.zero_le _, fun h => absurd h (Nat.lt_irrefl 0)⟩ hmay.out s1 []
          (fun v w1 q hr => by
            have e := pxHear q v (denM id n u) hr hmay.out (fun _ _ => hbare.out) (fun _ e => by rw [hkn.out] at e; cases e) (fun _ _ own1 w1 a sa sc hN hpe => xHears_deny k hN (hok0.out.heard_ _) (denM id n u) sa sc rfl)
            rw [hhear.out] at e
            exact e))
      clear pk p4 hb4
      go_wp2_with fail
      refine hcall.out.mono ?_
      rintro r w6 ⟨v6, own6, o6, rfl, p6, k6, q6, e6⟩
      obtain ⟨ad, cp, rfl, _⟩ := q6.len e6
      rw [List.length_nil]
      have hcall2 := Lib.hid (pxTickC p6 k hok1.out (by omega) hc1.out)
      clear hcall p6 k6 q6 e6 hmod hm0 hm1
      go_wp2_with fail
      refine hcall2.out.mono ?_
      rintro r w7 ⟨v7, own7, o7, rfl, p7, k7, q7, e7⟩
      have hD := Lib.hid (pxDisk p7)
      have hfin := Lib.hid p7.bel
      clear hcall2
      obtain ⟨ad7, cp7, rfl, had7⟩ := q7.len e7
      by_cases hgu : u ≤ s0.dv
      · rw [hle.out hgu] at hD
        clear p7 k7 q7 e7 had7
        go_wp2_with fail
        refine hD.out.mono ?_
        rintro r wx ⟨rfl, rfl⟩
        go_wp2
        go_ret
        exact ⟨rfl, hfin.out⟩
      · obtain ⟨hdv, hlen, hV1, hV2, hV3, hV4⟩ := hgt.out (by omega)
        rw [hdv] at hD
        obtain ⟨m, hm⟩ : ∃ m, m = s1.tick.2.length := ⟨_, rfl⟩
        rw [← hm] at had7 hlen q7 ⊢
        obtain ⟨g, off, rfl, hgl⟩ := had7 (by omega)
        have hc0 := hV4 0 (by omega)
        have x4 := q7.cell e7 g off rfl 0 (by omega) 4 (.int .i64 V) (by omega) (by show some (Value.int .i64 (s1.tick.2[0]'(by omega)).view) = _; rw [hc0])
        simp only [Nat.zero_mul, Nat.add_zero] at x4
        have hq : (((m : Nat) : Int) == n - 1) = true := by simp; omega
        have hm2 : 0 < m := by omega
        have hm7 : m ≤ 6 := by omega
        have hDec := Lib.hid (fun wx => rdecider_any V n wx (by omega) (by omega))
        rw [hV3] at hDec
        replace hlen := Lib.hid hlen
        replace hV3 := Lib.hid hV3
        replace hdv := Lib.hid hdv
        replace hm := Lib.hid hm
        clear p7 k7 q7 e7 had7 hV4 hc0
        go_wp2_with fail
        refine hD.out.mono ?_
        rintro r wx ⟨rfl, rfl⟩
        go_wp2_with fail
        refine (hDec.out _).mono ?_
        rintro r wx ⟨rfl, rfl⟩
        go_wp2
        go_ret
        exact ⟨rfl, hfin.out⟩

/-! the row's step, written out by law.py -/
set_option maxRecDepth 100000 in
theorem lifted (os : Os) (started : os.Started) (H : Type) (enc : TypeId × Value → H) :
    ReturnsInHanded {} Tryz.checked os 6 .any (Rows.nodeDeniedSpec.pre6 enc Tryz.prog Tryz.f6 Rows.nodeDeniedRow.domain false) (Rows.nodeDeniedSpec.post enc Tryz.prog Tryz.f6 false true false false) := by
  refine returnsInHanded_of_change_shaped (C := Tryz.checked) own started (by kernel_rfl) Tryz.func6
    (ChangeSpec.witness6 (enc := enc) (C := Tryz.checked) false ⟨#[], #[.int .i64 0, .int .i64 0, .int .i64 0], []⟩ 8 (by kernel_rfl) (by kernel_rfl) (by kernel_rfl) (by kernel_rfl)) ?_
  intro W base args ds gs before hval0 hW hcnd _ hsh _
  have hval : ∀ (j : Nat) t v, Tryz.f6.params[j]? = some t → args[j]? = some v → Value.okWide Tryz.prog W .any base t v := hval0
  have hW' := hW
  obtain ⟨p, q, hA0, hV, rfl, hfz, hnd⟩ := hW
  have hA : DataW.TrodAll enc Tryz.prog W 0 (fun _ => true) true Tryz.f6.params.toList args.toList ds p := hA0
  rw [Tryz.params6] at hA hval
  obtain ⟨v0, vs0, d0, ds0, p0, q0, hargs, rfl, rfl, h0, r0⟩ := trodAll_cons hA
  obtain ⟨v1, vs1, d1, ds1, p1, q1, rfl, rfl, rfl, h1, r1⟩ := trodAll_cons r0
  obtain ⟨v2, vs2, d2, ds2, p2, q2, rfl, rfl, rfl, h2, r2⟩ := trodAll_cons r1
  obtain ⟨rfl, rfl, rfl⟩ := trodAll_nil r2
  obtain rfl : args = #[v0, v1, v2] := by cases args; simp_all
  obtain ⟨rfl, rfl⟩ := trodVars_none hV
  have k0 := h0
  have lt0 : ∀ x ∈ p0, x.block < W.heap.size := by obtain ⟨m, hm⟩ := k0; exact DataW.trod_lt m _ _ _ hm
  have k1 := h1
  have lt1 : ∀ x ∈ p1, x.block < W.heap.size := by obtain ⟨m, hm⟩ := k1; exact DataW.trod_lt m _ _ _ hm
  have k2 := h2
  have lt2 : ∀ x ∈ p2, x.block < W.heap.size := by obtain ⟨m, hm⟩ := k2; exact DataW.trod_lt m _ _ _ hm
  obtain ⟨a0, rfl, rfl, rfl, w0⟩ := open_int Tryz.underlying3 (hval 0 3 v0 rfl rfl) h0
  have w0 := bounds_i64 w0
  obtain ⟨a1, rfl, rfl, rfl, w1⟩ := open_int Tryz.underlying3 (hval 1 3 v1 rfl rfl) h1
  have w1 := bounds_i64 w1
  obtain ⟨a2, rfl, rfl, rfl, w2⟩ := open_int Tryz.underlying2 (hval 2 2 v2 rfl rfl) h2
  have w2 := bounds_i64 w2
  clear hA0 hval0
  simp only [List.append_nil] at hW'
  obtain ⟨m, hm⟩ := maxLen_cell W hsh
  refine (walk m a0 a1 a2 W hm w0 w1 w2).mono fun e W' ⟨he, bel⟩ => ?_
  subst he
  exact ⟨_, rfl, _, _, _, [], _, [], hW', trodAll_mk1 (shut_bool Tryz.underlying4 _), (trodAll_cons_mk (Below.trod laidOut (by kernel_rfl) (of_decide_eq_true (by kernel_rfl)) k0 bel lt0) (trodAll_cons_mk (Below.trod laidOut (by kernel_rfl) (of_decide_eq_true (by kernel_rfl)) k1 bel lt1) (trodAll_cons_mk (Below.trod laidOut (by kernel_rfl) (of_decide_eq_true (by kernel_rfl)) k2 bel lt2) trodAll_mk0))), rfl, bel.frame _, fun h => by cases h⟩

theorem over : Rows.nodeDeniedRow.holds Tryz.pinned (OpenSpec.ofChange Rows.nodeDeniedSpec) :=
  OpenClaim.holds_of_wide 6 Tryz.f6 rfl rfl rfl rfl rfl rfl rfl ⟨rfl, rfl, rfl, rfl, rfl⟩ rfl rfl rfl rfl rfl (by kernel_rfl) Tryz.func6 (by kernel_rfl)
    (of_decide_eq_true (by kernel_rfl)) (by unfold Func.isWrapper; first | (rw [if_pos (by decide +kernel)]; kernel_rfl) | (rw [if_neg (by decide +kernel)]; exact ⟨rfl, rfl⟩))
    (fun os started H enc _ => lifted os started H enc)

theorem proved : Rows.NodeDeniedSaid := over
end Go.Proofs.YtphlcbbdpmkipaaGreat.lawNodeDenied
