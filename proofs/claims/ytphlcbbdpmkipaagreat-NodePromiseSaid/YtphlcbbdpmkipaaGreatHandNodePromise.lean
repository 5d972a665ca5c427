/- A process votes for a later view than any it promised, and for no elder one; its promise lasts. -/
import Derived.Test.YtphlcbbdpmkipaaGreatPkM
import Derived.Laws.BitsLemmas
namespace Go.Proofs.YtphlcbbdpmkipaaGreat.lawNodePromise
open Go.ChangeShapes Go.WideShapes Go.ChangeAt Go.RowKit
set_option linter.unusedVariables false

theorem and63 (x : Int) : bits .and .i64 x 63 = x % 64 := by
  have h15 : (BitVec.ofInt 64 63) = 63#64 := by decide
  have h1 : ((BitVec.ofInt 64 x) &&& (63#64)).toNat = (x % 18446744073709551616).toNat % 64 := by
    rw [BitVec.toNat_and, BitVec.toNat_ofInt, show (63#64).toNat = 2 ^ 6 - 1 from rfl, Nat.and_two_pow_sub_one_eq_mod]
    rfl
  show IntKind.i64.wrap (((BitVec.ofInt 64 x) &&& (BitVec.ofInt 64 63)).toNat : Int) = x % 64
  rw [h15, h1, IntKind.wrap_i64]
  omega
theorem cell8 {own : Nat → Nat} {w : World} {ad : Option Addr} {n cap : Nat} {o : List MsS} (h : pubM own w (.slice ad n cap) o) {l : List Ms} (e : o.map MsS.m = l) (g off : Nat) (ha : ad = some ⟨g, off, none⟩) (k : Nat) (hk : k < l.length) :
    ∃ a c, w.cell? ⟨g, off + k * 13 + 8, none⟩ = some (.slice a (l[k]).ents.length c) := by
  subst e
  obtain ⟨ad', cap', hv, _, _, hh⟩ := h.rd
  cases hv
  obtain ⟨g', off', e1, hc⟩ := hh (by rw [List.length_map] at hk; omega)
  rw [ha] at e1
  injection e1 with e1
  injection e1 with e2 e3
  subst e2; subst e3
  rw [List.length_map] at hk
  refine ⟨o[k].a, o[k].c, ?_⟩
  have := hc k hk 8 _ rfl
  rw [List.getElem_map]
  exact this

/-- what is known of the process -/
structure PrI (id n top : Int) (s : Nd) : Prop where
  kn : s.knows = true
  id_ : s.id = id
  n_ : s.n = n
  bare : Bare s
  last : s.last = 0
  mem : s.mem = 0
  dv : s.dv = top
  pf : s.pf.has = false
  bo : s.boots.length = 8 ∧ ∀ j, s.boots.getD j 0 ≤ 1
  ok : Ok 0 s
theorem boots_set (bs : List Int) (k : Nat) (h : bs.length = 8 ∧ ∀ j, bs.getD j 0 ≤ 1) : (bs.set k 1).length = 8 ∧ ∀ j, (bs.set k 1).getD j 0 ≤ 1 := by
  refine ⟨by rw [List.length_set]; exact h.1, fun j => ?_⟩
  have hj := h.2 j
  rw [List.getD_eq_getElem?_getD] at hj ⊢
  rw [List.getElem?_set]
  split
  · next e =>
    subst e
    split
    · simp
    · simp
  · exact hj
theorem pr_make (id n : Int) (h3 : 3 ≤ n) (h7 : n ≤ 7) (i1 : 1 ≤ id) (i2 : id ≤ n) : PrI id n 0 (Nd.make id n 1 0) :=
  ⟨rfl, rfl, rfl, ⟨rfl, rfl, rfl⟩, rfl, rfl, rfl, rfl, ⟨rfl, fun j => by
    show eightZ.getD j 0 ≤ 1
    match j with
    | 0 | 1 | 2 | 3 | 4 | 5 | 6 | 7 => decide
    | n + 8 => show (0 : Int) ≤ 1; decide⟩, Ok.make h3 h7 i1 i2 (by omega) (by omega) (by omega) (by omega)⟩
theorem pr_hear {id n top : Int} {s : Nd} (h : PrI id n top s) (v : Int) (v1 : 1 ≤ v) (v2 : v ≤ 64) (t0 : 0 ≤ top) : ∃ s' r, s.hear (frM 1 (decT v n) id v) = (s', [r]) ∧ PrI id n (max top v) s' ∧ r.too = decT v n ∧
    (top ≤ v → r.kind = 3 ∧ r.view = v ∧ r.last = 0 ∧ r.ents = []) ∧ (v < top → r.kind = 2 ∧ r.view = top) ∧ Bare ((s.heard_ (frM 1 (decT v n) id v)).hear0 (frM 1 (decT v n) id v)).1 ∧ Ok 0 (s.heard_ (frM 1 (decT v n) id v)) := by
  obtain ⟨s1, hs1⟩ : ∃ s1, s1 = s.heard_ (frM 1 (decT v n) id v) := ⟨_, rfl⟩
  have h1 : PrI id n top s1 := by
    subst hs1
    exact ⟨h.kn, h.id_, h.n_, ⟨h.bare.L, h.bare.p, h.bare.c⟩, h.last, h.mem, h.dv, h.pf, boots_set _ _ h.bo, { h.ok with }⟩
  have e1 : s1.hear0 (frM 1 (decT v n) id v) = s1.proposed (frM 1 (decT v n) id v) := by
    unfold Nd.hear0
    rw [if_neg (by show ¬ ((1 : Int) == 12) = true; decide), if_neg (by rw [h1.kn]; decide)]
    rfl
  have e0 : ∀ x : Nd × List Ms, s1.proposed (frM 1 (decT v n) id v) = x → Bare x.1 → s.hear (frM 1 (decT v n) id v) = x ∧ Bare (s1.hear0 (frM 1 (decT v n) id v)).1 := fun x e hb => by
    refine ⟨?_, by rw [e1, e]; exact hb⟩
    unfold Nd.hear
    rw [if_neg (by
      show ¬ ((id != s.id) || decide ((1 : Int) < s.boots.getD (decT v n).toNat 0)) = true
      have := h.bo.2 (decT v n).toNat
      rw [h.id_]
      rw [bne_self_eq_false, Bool.false_or, decide_eq_true_eq]
      omega)]
    show (((s.heard_ (frM 1 (decT v n) id v)).hear0 (frM 1 (decT v n) id v)).1.settle, ((s.heard_ (frM 1 (decT v n) id v)).hear0 (frM 1 (decT v n) id v)).2) = x
    rw [← hs1, e1, e, settle_bare hb]
  have hp : s1.proposed (frM 1 (decT v n) id v) = if top < v then (({ s1 with dv := v, v := none, again := false, heard := s1.clock, pf := s1.pf.drop } : Nd), [({ s1 with dv := v, v := none, again := false, heard := s1.clock, pf := s1.pf.drop } : Nd).voteM (frM 1 (decT v n) id v)])
      else if v < top then (s1, [{ s1.ms 2 (decT v n) with view := top }]) else (s1, [s1.voteM (frM 1 (decT v n) id v)]) := by
    unfold Nd.proposed
    rw [if_neg (by rw [h1.n_]; show ¬ (decT v n != decT v n) = true; simp)]
    show (if s1.dv < v then (if 1099511627776 < v then _ else _) else if v < s1.dv ∨ v ≤ s1.last then _ else _) = _
    rw [h1.dv, h1.last, if_neg (show ¬ (1099511627776 < v) by omega)]
    by_cases g1 : top < v
    · rw [if_pos g1, if_pos g1]
    · rw [if_neg g1, if_neg g1]
      by_cases g2 : v < top
      · rw [if_pos (.inl g2), if_pos g2]
      · rw [if_neg (by omega), if_neg g2]
  rw [← hs1]
  by_cases g1 : top < v
  · rw [if_pos g1] at hp
    obtain ⟨e2, e3⟩ := e0 _ hp ⟨h1.bare.L, h1.bare.p, h1.bare.c⟩
    refine ⟨_, _, e2, ?_, rfl, fun _ => ⟨rfl, rfl, h1.last, h1.bare.L⟩, fun g => by omega, e3, h1.ok⟩
    rw [Int.max_eq_right (by omega)]
    exact ⟨h1.kn, h1.id_, h1.n_, ⟨h1.bare.L, h1.bare.p, h1.bare.c⟩, h1.last, h1.mem, rfl, rfl, h1.bo, { h1.ok with
      d0 := by show 0 ≤ v; omega
      d1 := by show v ≤ 1099511627776; omega
      l1 := by show s1.last ≤ v; rw [h1.last]; omega
      h0 := h1.ok.c0
      h1 := Int.le_refl _
      qa := by show ([] : List (Int × Int)).length ≤ 64; simp
      vt := fun u l e => by cases e }⟩
  · rw [if_neg g1] at hp
    by_cases g2 : v < top
    · rw [if_pos g2] at hp
      obtain ⟨e2, e3⟩ := e0 _ hp h1.bare
      refine ⟨_, _, e2, ?_, rfl, fun g => by omega, fun _ => ⟨rfl, rfl⟩, e3, h1.ok⟩
      rw [Int.max_eq_left (by omega)]
      exact h1
    · rw [if_neg g2] at hp
      obtain ⟨e2, e3⟩ := e0 _ hp h1.bare
      refine ⟨_, _, e2, ?_, rfl, fun _ => ⟨rfl, rfl, h1.last, h1.bare.L⟩, fun g => by omega, e3, h1.ok⟩
      rw [Int.max_eq_left (by omega)]
      exact h1
theorem pr_may (id n v : Int) (h3 : 3 ≤ n) (h7 : n ≤ 7) (i1 : 1 ≤ id) (i2 : id ≤ n) (v1 : 1 ≤ v) (v2 : v ≤ 64) (hne : decT v n ≠ id) : MayM (frM 1 (decT v n) id v) ∧ 1 ≤ decT v n ∧ decT v n ≤ n := by
  have hd : decT v n = 1 + (v - 1) % n := if_neg (by omega)
  have h1 : 0 ≤ (v - 1) % n := Int.emod_nonneg _ (by omega)
  have h2 : (v - 1) % n < n := Int.emod_lt_of_pos _ (by omega)
  rw [hd] at hne ⊢
  generalize hq : (v - 1) % n = q at h1 h2 hne
  refine ⟨?_, by omega, by omega⟩
  refine ⟨?_, ?_, ?_, ?_, ?_, ?_, ?_, ?_, ?_, ?_, ?_, ?_, ?_, ?_, ?_, ?_, ?_, ?_, ?_, ?_, ?_, ?_, ?_, ?_, fun e he => by cases he⟩ <;> (first | (dsimp only; omega) | (simp; done) | (dsimp only; decide))

set_option maxRecDepth 100000 in
set_option maxHeartbeats 16000000 in
theorem walk (mm id n : Int) (va : Value) (l : List Int) (w : World) (hmm : w.cell? ⟨0, 0, none⟩ = some (.int .i64 mm)) (hid : I64 id) (hn : I64 n) (hr : rdI w va l) (hl : ∀ x ∈ l, I64 x) : Calls Tryz.prog 3 #[.int .i64 id, .int .i64 n, va] w fun r w' => r = .returned (.bool true) ∧ Below w.heap.size w w' := by
  have hbeg := Lib.hid (b25_any w)
  clear hmm
  obtain ⟨a, cap, rfl, hm, hM, ha⟩ := hr
  unfold maxLen at hM
  replace ha := Lib.hid ha
  replace hl := Lib.hid hl
  obtain ⟨hn1, hn2⟩ := hn
  obtain ⟨hid1, hid2⟩ := hid
  by_cases g : 3 ≤ n ∧ n ≤ 7 ∧ 1 ≤ id ∧ id ≤ n
  case neg =>
    replace g := Lib.hid g
    go_enter Tryz.func3, Tryz.ntmps3
    go_wp2_with fail
    refine hbeg.out.mono ?_
    rintro r w1 ⟨rfl, hb1⟩
    replace hb1 := Lib.hid hb1
    by_cases g1 : n < 3
    · go_wp2
      go_ret
      exact ⟨rfl, hb1.out⟩
    by_cases g2 : n > 7
    · go_wp2
      go_ret
      exact ⟨rfl, hb1.out⟩
    by_cases g3 : id < 1
    · go_wp2
      go_ret
      exact ⟨rfl, hb1.out⟩
    by_cases g4 : id > n
    · go_wp2
      go_ret
      exact ⟨rfl, hb1.out⟩
    exact absurd (by omega) g.out
  obtain ⟨n3, n7, i1, i2⟩ := g
  have g1 : ¬ n < 3 := by omega
  have g2 : ¬ n > 7 := by omega
  have g3 : ¬ id < 1 := by omega
  have g4 : ¬ id > n := by omega
  go_enter Tryz.func3, Tryz.ntmps3
  go_wp2_with fail
  refine hbeg.out.mono ?_
  rintro r w1 ⟨rfl, hb1⟩
  clear hbeg
  have hsz1 := hb1.size
  obtain ⟨W1, hW1⟩ : ∃ W, W = w1.alloc (.cells #[.int .i64 0, .int .i64 0] 26) := ⟨_, rfl⟩
  have hB1 : Below w.heap.size w W1 := hW1 ▸ hb1.alloc hsz1 _
  have hd1 : dkO W1 w1.heap.size 0 #[.int .i64 0, .int .i64 0] 26 0 0 := hW1 ▸ dkO_new w1 0
  obtain ⟨dk, hdk⟩ : ∃ dk, dk = w1.heap.size := ⟨_, rfl⟩
  rw [← hdk] at hd1
  have hdl := hdk ▸ hsz1
  replace hdk := Lib.hid hdk
  replace hW1 := Lib.hid hW1
  replace hb1 := Lib.hid hb1
  clear hsz1
  have hMk := Lib.hid (pxMake W1 id n 0 0 dk _ _ w hdl hB1 hd1 n3 n7 (by omega) (by omega) (by omega) (by omega) (by omega) (by omega))
  have hS := Lib.hid (pr_make id n n3 n7 i1 i2)
  obtain ⟨S, hS0⟩ : ∃ S, S = Nd.make id n 1 0 := ⟨_, rfl⟩
  rw [show (0 : Int) + 1 = 1 from rfl, ← hS0] at hMk
  rw [← hS0] at hS
  replace hS0 := Lib.hid hS0
  replace hd1 := Lib.hid hd1
  replace hB1 := Lib.hid hB1
  go_upto_region 7 with (fail)
  rw [← hW1.out, ← hdk.out]
  go_wp2_with fail
  refine hMk.out.mono ?_
  rintro r w2 ⟨own2, b, rfl, p2, _, _⟩
  replace p2 := Lib.hid p2
  clear hMk
  go_wp2
  go_loopw [11, 12] (fun t i wr => ∃ (k : Nat) (top : Int) (s : Nd) (own : Nat → Nat), k ≤ l.length ∧ k ≤ 20 ∧ i = .int .i64 k ∧ t = .int .i64 top ∧ 0 ≤ top ∧ top ≤ 64 ∧ PrI id n top s ∧ PX own w wr b dk s) (fun _ i _ => 20 - (intOf i).toNat)
  case atStart => exact ⟨0, 0, S, own2, Nat.zero_le _, Nat.zero_le _, rfl, rfl, Int.le_refl _, by omega, hS.out, p2.out⟩
  case round =>
    obtain ⟨k, top, s, own, hk, hk20, rfl, rfl, t0, t1, hI, pk⟩ := hrel
    clear p2 hS
    replace hI := Lib.hid hI
    by_cases hlt : k < l.length
    · by_cases hlt20 : k < 20
      · obtain ⟨g, off, rfl, hc⟩ := ha.out (by omega)
        have hck := pk.bel.cell (p := ⟨g, off + k, none⟩) (cell_lt (hc k hlt))
        rw [hc k hlt] at hck
        have hI64 := hl.out _ (List.getElem_mem hlt)
        clear hc
        generalize l[k] = x at hck hI64
        obtain ⟨hI1, hI2⟩ := hI64
        have hax := and63 x
        have hx0 : 0 ≤ x % 64 ∧ x % 64 < 64 := by omega
        obtain ⟨V, hV⟩ : ∃ V, V = 1 + x % 64 := ⟨_, rfl⟩
        have hV1 : 1 ≤ V ∧ V ≤ 64 := by omega
        replace pk := Lib.hid pk
        go_wp2_with fail
        rw [← hV]
        replace hV := Lib.hid hV
        refine (rdecider_any V n _ (by omega) (by omega)).mono ?_
        rintro r wx ⟨rfl, rfl⟩
        obtain ⟨P, hP⟩ : ∃ P, P = decT V n := ⟨_, rfl⟩
        rw [← hP]
        replace hP := Lib.hid hP
        by_cases hpi : P = id
        · go_wp2
          go_roundw
          case rel => exact ⟨k + 1, top, s, own, by omega, by omega, by go_num, rfl, t0, t1, hI.out, pk.out⟩
          case measure => simp [intOf]; omega
        · obtain ⟨hmay, hP1, hP2⟩ := pr_may id n V n3 n7 i1 i2 hV1.1 hV1.2 (by rw [← hP.out]; exact hpi)
          obtain ⟨s', r', hh, hI', hto, hge, hlt', hbare, hokh⟩ := pr_hear hI.out V hV1.1 hV1.2 t0
          rw [← hP.out] at hmay hP1 hP2 hh hto hbare hokh
          replace hmay := Lib.hid hmay
          replace hh := Lib.hid hh
          replace hI' := Lib.hid hI'
          replace hto := Lib.hid hto
          replace hge := Lib.hid hge
          replace hlt' := Lib.hid hlt'
          replace hbare := Lib.hid hbare
          replace hokh := Lib.hid hokh
          go_wp2_with fail
          refine (from25_any _ _ _ _ _).mono ?_
          rintro r w4 ⟨rfl, hb4⟩
          obtain ⟨p4, _⟩ := pk.out.grow hb4
          have hcall := Lib.hid (hear25_any p4 (frM 1 P id V) none 0 ⟨none, 0, rfl, Nat.le_refl _, Nat.zero_le _, fun h => absurd h (Nat.lt_irrefl 0)⟩ hmay.out s' [r']
              (fun v w1 q hr => by
                have e := pxHear q v (frM 1 P id V) hr hmay.out (fun _ _ => hbare.out) (fun _ e => by rw [hI.out.kn] at e; cases e) (fun _ _ own1 w1 a sa sc hN hpe => xHears_prop 0 hN hokh.out (frM 1 P id V) sa sc rfl (by simp) (by show 0 ≤ V; omega) (by show V ≤ 1099511627776; omega))
                rw [hh.out] at e
                exact e))
          clear pk p4 hb4
          go_wp2_with fail
          refine hcall.out.mono ?_
          rintro r w6 ⟨v6, own6, o6, rfl, p6, k6, q6, e6⟩
          obtain ⟨ad, cp, rfl, had⟩ := q6.len e6
          obtain ⟨g6, off6, rfl, hgl⟩ := had (by show 0 < 1; omega)
          obtain ⟨a8, c8, x8⟩ := cell8 q6 e6 g6 off6 rfl 0 (by show 0 < 1; omega)
          have x0 := q6.cell e6 g6 off6 rfl 0 (by show 0 < 1; omega) 0 (.int .i64 r'.kind) (by omega) rfl
          have x2 := q6.cell e6 g6 off6 rfl 0 (by show 0 < 1; omega) 2 (.int .i64 P) (by omega) (by show some (Value.int .i64 r'.too) = _; rw [hto.out])
          have x4 := q6.cell e6 g6 off6 rfl 0 (by show 0 < 1; omega) 4 (.int .i64 r'.view) (by omega) rfl
          have x5 := q6.cell e6 g6 off6 rfl 0 (by show 0 < 1; omega) 5 (.int .i64 r'.last) (by omega) rfl
          replace x8 : w6.cell? ⟨g6, off6 + 0 * 13 + 8, none⟩ = some (.slice a8 r'.ents.length c8) := x8
          simp only [Nat.zero_mul, Nat.add_zero] at x0 x2 x4 x5 x8
          rw [List.length_singleton]
          have hD := Lib.hid (pxDisk p6)
          replace p6 := Lib.hid p6
          clear hcall k6 q6 e6 had
          by_cases hb : top ≤ V
          · obtain ⟨e1, e2, e3, e4⟩ := hge.out hb
            rw [e1] at x0
            rw [e2] at x4
            rw [e3] at x5
            rw [e4, List.length_nil] at x8
            rw [hI'.out.dv, Int.max_eq_right hb] at hD
            rw [Int.max_eq_right hb] at hI'
            go_wp2_with fail
            refine hD.out.mono ?_
            rintro r wx ⟨rfl, rfl⟩
            clear hD x0 x2 x4 x5 x8
            go_wp2
            go_roundw
            case rel => exact ⟨k + 1, V, s', own6, by omega, by omega, by go_num, rfl, by omega, hV1.2, hI'.out, p6.out⟩
            case measure => simp [intOf]; omega
          · obtain ⟨e1, e2⟩ := hlt'.out (by omega)
            rw [e1] at x0
            rw [e2] at x4
            rw [hI'.out.dv, Int.max_eq_left (by omega)] at hD
            rw [Int.max_eq_left (by omega)] at hI'
            clear x5 x8
            go_wp2_with fail
            refine hD.out.mono ?_
            rintro r wx ⟨rfl, rfl⟩
            clear hD x0 x2 x4
            go_wp2
            go_roundw
            case rel => exact ⟨k + 1, top, s', own6, by omega, by omega, by go_num, rfl, t0, t1, hI'.out, p6.out⟩
            case measure => simp [intOf]; omega
      · have hI0 := hI.out
        have hview : s.view = (0, 0, false) := by
          unfold Nd.view Nd.in_
          rw [hI0.last]
          simp
        have hV := Lib.hid (pxView pk (by rw [hI0.mem]; omega))
        rw [hview] at hV
        go_wp2_with fail
        refine hV.out.mono ?_
        rintro r w9 ⟨rfl, hb9⟩
        obtain ⟨p9, k9⟩ := pk.grow hb9
        have hG := Lib.hid (pxGood_no p9 (by rw [hI0.mem]; omega) hI0.pf)
        have hbel := Lib.hid p9.bel
        clear pk p9 k9 hb9
        go_wp2_with fail
        refine hG.out.mono ?_
        rintro r w10 ⟨rfl, hb10⟩
        have hfin := Lib.hid (hbel.out.trans (hb10.mono hbel.out.size))
        clear hb10
        go_wp2
        go_ret
        exact ⟨rfl, hfin.out⟩
    · have hI0 := hI.out
      have hview : s.view = (0, 0, false) := by
        unfold Nd.view Nd.in_
        rw [hI0.last]
        simp
      have hV := Lib.hid (pxView pk (by rw [hI0.mem]; omega))
      rw [hview] at hV
      go_wp2_with fail
      refine hV.out.mono ?_
      rintro r w9 ⟨rfl, hb9⟩
      obtain ⟨p9, k9⟩ := pk.grow hb9
      have hG := Lib.hid (pxGood_no p9 (by rw [hI0.mem]; omega) hI0.pf)
      have hbel := Lib.hid p9.bel
      clear pk p9 k9 hb9
      go_wp2_with fail
      refine hG.out.mono ?_
      rintro r w10 ⟨rfl, hb10⟩
      have hfin := Lib.hid (hbel.out.trans (hb10.mono hbel.out.size))
      clear hb10
      go_wp2
      go_ret
      exact ⟨rfl, hfin.out⟩

/-! the row's step, written out by law.py -/
set_option maxRecDepth 100000 in
theorem lifted (os : Os) (started : os.Started) (H : Type) (enc : TypeId × Value → H) :
    ReturnsInHanded {} Tryz.checked os 3 .any (Rows.nodePromiseSpec.pre6 enc Tryz.prog Tryz.f3 Rows.nodePromiseRow.domain false) (Rows.nodePromiseSpec.post enc Tryz.prog Tryz.f3 false true false false) := by
  refine returnsInHanded_of_change_shaped (C := Tryz.checked) own started (by kernel_rfl) Tryz.func3
    (ChangeSpec.witness6 (enc := enc) (C := Tryz.checked) false ⟨#[], #[.int .i64 0, .int .i64 0, .slice none 0 0], []⟩ 8 (by kernel_rfl) (by kernel_rfl) (by kernel_rfl) (by kernel_rfl)) ?_
  intro W base args ds gs before hval0 hW hcnd _ hsh _
  have hval : ∀ (j : Nat) t v, Tryz.f3.params[j]? = some t → args[j]? = some v → Value.okWide Tryz.prog W .any base t v := hval0
  have hW' := hW
  obtain ⟨p, q, hA0, hV, rfl, hfz, hnd⟩ := hW
  have hA : DataW.TrodAll enc Tryz.prog W 0 (fun _ => true) true Tryz.f3.params.toList args.toList ds p := hA0
  rw [Tryz.params3] at hA hval
  obtain ⟨v0, vs0, d0, ds0, p0, q0, hargs, rfl, rfl, h0, r0⟩ := trodAll_cons hA
  obtain ⟨v1, vs1, d1, ds1, p1, q1, rfl, rfl, rfl, h1, r1⟩ := trodAll_cons r0
  obtain ⟨v2, vs2, d2, ds2, p2, q2, rfl, rfl, rfl, h2, r2⟩ := trodAll_cons r1
  obtain ⟨rfl, rfl, rfl⟩ := trodAll_nil r2
  obtain rfl : args = #[v0, v1, v2] := by cases args; simp_all
  obtain ⟨rfl, rfl⟩ := trodVars_none hV
  have k0 := h0
  have lt0 : ∀ x ∈ p0, x.block < W.heap.size := by obtain ⟨m, hm⟩ := k0; exact DataW.trod_lt m _ _ _ hm
  have k1 := h1
  have lt1 : ∀ x ∈ p1, x.block < W.heap.size := by obtain ⟨m, hm⟩ := k1; exact DataW.trod_lt m _ _ _ hm
  have k2 := h2
  have lt2 : ∀ x ∈ p2, x.block < W.heap.size := by obtain ⟨m, hm⟩ := k2; exact DataW.trod_lt m _ _ _ hm
  obtain ⟨a0, rfl, rfl, rfl, w0⟩ := open_int Tryz.underlying3 (hval 0 3 v0 rfl rfl) h0
  have w0 := bounds_i64 w0
  obtain ⟨a1, rfl, rfl, rfl, w1⟩ := open_int Tryz.underlying3 (hval 1 3 v1 rfl rfl) h1
  have w1 := bounds_i64 w1
  obtain ⟨l2, w2, b2⟩ := rdI_open Tryz.underlying22 Tryz.underlying2 (by kernel_rfl) (hval 2 22 v2 rfl rfl) h2
  clear hA0 hval0
  simp only [List.append_nil] at hW'
  obtain ⟨m, hm⟩ := maxLen_cell W hsh
  refine (walk m a0 a1 v2 l2 W hm w0 w1 w2 b2).mono fun e W' ⟨he, bel⟩ => ?_
  subst he
  exact ⟨_, rfl, _, _, _, [], _, [], hW', trodAll_mk1 (shut_bool Tryz.underlying4 _), (trodAll_cons_mk (Below.trod laidOut (by kernel_rfl) (of_decide_eq_true (by kernel_rfl)) k0 bel lt0) (trodAll_cons_mk (Below.trod laidOut (by kernel_rfl) (of_decide_eq_true (by kernel_rfl)) k1 bel lt1) (trodAll_cons_mk (Below.trod laidOut (by kernel_rfl) (of_decide_eq_true (by kernel_rfl)) k2 bel lt2) trodAll_mk0))), rfl, bel.frame _, fun h => by cases h⟩

theorem over : Rows.nodePromiseRow.holds Tryz.pinned (OpenSpec.ofChange Rows.nodePromiseSpec) :=
  OpenClaim.holds_of_wide 3 Tryz.f3 rfl rfl rfl rfl rfl rfl rfl ⟨rfl, rfl, rfl, rfl, rfl⟩ rfl rfl rfl rfl rfl (by kernel_rfl) Tryz.func3 (by kernel_rfl)
    (of_decide_eq_true (by kernel_rfl)) (by unfold Func.isWrapper; first | (rw [if_pos (by decide +kernel)]; kernel_rfl) | (rw [if_neg (by decide +kernel)]; exact ⟨rfl, rfl⟩))
    (fun os started H enc _ => lifted os started H enc)

theorem proved : Rows.NodePromiseSaid := over
end Go.Proofs.YtphlcbbdpmkipaaGreat.lawNodePromise
