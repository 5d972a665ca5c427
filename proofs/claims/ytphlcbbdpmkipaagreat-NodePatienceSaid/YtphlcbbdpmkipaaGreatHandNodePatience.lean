/- A process that hears nothing proposes when its patience is at its end, each at its own time, the least view that it decides. -/
import Derived.Test.YtphlcbbdpmkipaaGreatPkM
namespace Go.Proofs.YtphlcbbdpmkipaaGreat.lawNodePatience
open Go.ChangeShapes Go.WideShapes Go.ChangeAt Go.RowKit
set_option linter.unusedVariables false

def patB (id n : Nat) : Bool :=
  let S := Nd.make id n 1 0
  let N := 7 + 2 * id
  let s1 := tickN S N
  let l := s1.tick.2
  let s2 := s1.tick.1
  runP (fun _ s => chk s && s.tick.2.isEmpty && s.tick.1.dv == 0) N 0 S && chk s1 && l.length + 1 == n && s2.dv == id && l.all (fun m => m.kind == 1 && m.view == id && m.boot == 1 && m.frm == id) && chk s2 && eqMsgs l s2.tick.2
theorem pats : ∀ n, n < 8 → 3 ≤ n → ∀ id, id < 8 → 1 ≤ id → id ≤ n → patB id n = true := by decide +kernel
theorem facts (id n : Int) (h3 : 3 ≤ n) (h7 : n ≤ 7) (i1 : 1 ≤ id) (i2 : id ≤ n) : ∃ (N : Nat) (s1 s2 : Nd), (N : Int) = 7 + 2 * id ∧ s1 = tickN (Nd.make id n 1 0) N ∧ s2 = s1.tick.1 ∧ Ok 0 (Nd.make id n 1 0) ∧
    (∀ k, k < N → chk (tickN (Nd.make id n 1 0) k) = true ∧ (tickN (Nd.make id n 1 0) k).tick.2 = [] ∧ (tickN (Nd.make id n 1 0) (k + 1)).dv = 0) ∧ Ok N s1 ∧ Ok (N + 1) s2 ∧ chk s1 = true ∧ (s1.tick.2.length : Int) = n - 1 ∧ s2.dv = id ∧
    (∀ k (h : k < s1.tick.2.length), (s1.tick.2[k]).kind = 1 ∧ (s1.tick.2[k]).view = id ∧ (s1.tick.2[k]).boot = 1 ∧ (s1.tick.2[k]).frm = id) ∧ chk s2 = true ∧ eqMsgs s1.tick.2 s2.tick.2 = true := by
  obtain ⟨n, rfl⟩ := Int.eq_ofNat_of_zero_le (show (0 : Int) ≤ n by omega)
  obtain ⟨id, rfl⟩ := Int.eq_ofNat_of_zero_le (show (0 : Int) ≤ id by omega)
  have h := pats n (by omega) (by omega) id (by omega) (by omega) (by omega)
  have hok : Ok 0 (Nd.make (id : Int) (n : Int) 1 0) := Ok.make (by omega) (by omega) (by omega) (by omega) (by omega) (by omega) (by omega) (by omega)
  unfold patB at h
  simp only [Bool.and_eq_true, beq_iff_eq, List.all_eq_true] at h
  obtain ⟨⟨⟨⟨⟨⟨h1, h2⟩, h4⟩, h5⟩, h6⟩, h8⟩, h9⟩ := h
  have hr : ∀ k, k < 7 + 2 * id → chk (tickN (Nd.make id n 1 0) k) = true ∧ (tickN (Nd.make id n 1 0) k).tick.2 = [] ∧ (tickN (Nd.make id n 1 0) (k + 1)).dv = 0 := fun k hk => by
    have := runP0 h1 k hk
    simp only [Bool.and_eq_true, beq_iff_eq, List.isEmpty_iff] at this
    exact ⟨this.1.1, this.1.2, this.2⟩
  have o1 := ok_tickN hok (7 + 2 * id) fun j hj => (hr j hj).1
  refine ⟨7 + 2 * id, _, _, by omega, rfl, rfl, hok, hr, o1, o1.tick (chk_iff h2).1, h2, by omega, h5, fun k hk => ?_, h8, h9⟩
  have := h6 _ (List.getElem_mem hk)
  exact ⟨this.1.1.1, this.1.1.2, this.1.2, this.2⟩

set_option maxRecDepth 100000 in
set_option maxHeartbeats 16000000 in
theorem walk (mm id n : Int) (w : World) (hmm : w.cell? ⟨0, 0, none⟩ = some (.int .i64 mm)) (hid : I64 id) (hn : I64 n) : Calls Tryz.prog 5 #[.int .i64 id, .int .i64 n] w fun r w' => r = .returned (.bool true) ∧ Below w.heap.size w w' := by
  have hbeg := Lib.hid (b25_any w)
  clear hmm
  obtain ⟨hn1, hn2⟩ := hn
  obtain ⟨hid1, hid2⟩ := hid
  by_cases g : 3 ≤ n ∧ n ≤ 7 ∧ 1 ≤ id ∧ id ≤ n
  case neg =>
    replace g := Lib.hid g
    go_enter Tryz.func5, Tryz.ntmps5
    go_wp2_with fail
    refine hbeg.out.mono ?_
    rintro r w1 ⟨rfl, hb1⟩
    replace hb1 := Lib.hid hb1
    by_cases g1 : n < 3
    · go_wp2
      go_ret
      exact ⟨rfl, hb1.out⟩
    by_cases g2 : n > 7
    · go_wp2
      go_ret
      exact ⟨rfl, hb1.out⟩
    by_cases g3 : id < 1
    · go_wp2
      go_ret
      exact ⟨rfl, hb1.out⟩
    by_cases g4 : id > n
    · go_wp2
      go_ret
      exact ⟨rfl, hb1.out⟩
    exact absurd (by omega) g.out
  obtain ⟨n3, n7, i1, i2⟩ := g
  have g1 : ¬ n < 3 := by omega
  have g2 : ¬ n > 7 := by omega
  have g3 : ¬ id < 1 := by omega
  have g4 : ¬ id > n := by omega
  go_enter Tryz.func5, Tryz.ntmps5
  go_wp2_with fail
  refine hbeg.out.mono ?_
  rintro r w1 ⟨rfl, hb1⟩
  clear hbeg
  have hsz1 := hb1.size
  obtain ⟨W1, hW1⟩ : ∃ W, W = w1.alloc (.cells #[.int .i64 0, .int .i64 0] 26) := ⟨_, rfl⟩
  have hB1 : Below w.heap.size w W1 := hW1 ▸ hb1.alloc hsz1 _
  have hd1 : dkO W1 w1.heap.size 0 #[.int .i64 0, .int .i64 0] 26 0 0 := hW1 ▸ dkO_new w1 0
  obtain ⟨dk, hdk⟩ : ∃ dk, dk = w1.heap.size := ⟨_, rfl⟩
  rw [← hdk] at hd1
  have hdl := hdk ▸ hsz1
  replace hdk := Lib.hid hdk
  replace hW1 := Lib.hid hW1
  replace hb1 := Lib.hid hb1
  clear hsz1
  have hMk := Lib.hid (pxMake W1 id n 0 0 dk _ _ w hdl hB1 hd1 n3 n7 (by omega) (by omega) (by omega) (by omega) (by omega) (by omega))
  obtain ⟨N, s1, s2, hN, hs1, hs2, hok, hrun, hok1, hok2, hc1, hlen, hdv, hcells, hc2, heq⟩ := facts id n n3 n7 i1 i2
  obtain ⟨S, hS0⟩ : ∃ S, S = Nd.make id n 1 0 := ⟨_, rfl⟩
  rw [show (0 : Int) + 1 = 1 from rfl, ← hS0] at hMk
  rw [← hS0] at hs1 hok hrun
  replace hS0 := Lib.hid hS0
  replace hs1 := Lib.hid hs1
  replace hs2 := Lib.hid hs2
  replace hok := Lib.hid hok
  replace hrun := Lib.hid hrun
  replace hok1 := Lib.hid hok1
  replace hok2 := Lib.hid hok2
  replace hc1 := Lib.hid hc1
  replace hlen := Lib.hid hlen
  replace hdv := Lib.hid hdv
  replace hcells := Lib.hid hcells
  replace hc2 := Lib.hid hc2
  replace heq := Lib.hid heq
  replace hN := Lib.hid hN
  replace hd1 := Lib.hid hd1
  replace hB1 := Lib.hid hB1
  go_upto_region 7 with (fail)
  rw [← hW1.out, ← hdk.out]
  go_wp2_with fail
  refine hMk.out.mono ?_
  rintro r w2 ⟨own2, b, rfl, p2, _, _⟩
  replace p2 := Lib.hid p2
  clear hMk
  go_wp2
  go_loopw [9] (fun i wr => ∃ (k : Nat) (own : Nat → Nat), k ≤ N ∧ i = .int .i64 (k + 1) ∧ PX own w wr b dk (tickN S k)) (fun i _ => N + 2 - (intOf i).toNat)
  case atStart => exact ⟨0, own2, by omega, rfl, p2.out⟩
  case round =>
    obtain ⟨k, own, hk, rfl, pk⟩ := hrel
    by_cases hlt : k < N
    · have hg1 : ((k : Int) + 1 < 8 + 2 * id) := by have := hN.out; omega
      obtain ⟨hck, hem, hdk0⟩ := hrun.out k hlt
      have hcall := Lib.hid (pxTickC pk k (ok_tickN hok.out k fun j hj => (hrun.out j (by omega)).1) (by have := hN.out; omega) hck)
      replace hem := Lib.hid hem
      replace hdk0 := Lib.hid hdk0
      clear pk
      go_wp2_with fail
      refine hcall.out.mono ?_
      rintro r w4 ⟨v4, own4, o4, rfl, p4, k4, q4, e4⟩
      rw [hem.out] at e4
      obtain ⟨ad, cp, rfl, _⟩ := q4.len e4
      have hD := Lib.hid (pxDisk p4)
      rw [show (tickN S k).tick.1 = tickN S (k + 1) from rfl, hdk0.out] at hD
      replace p4 := Lib.hid p4
      clear hcall k4 q4 e4
      go_wp2_with fail
      refine hD.out.mono ?_
      rintro r wx ⟨rfl, rfl⟩
      go_wp2
      go_roundw
      case rel => exact ⟨k + 1, own4, by omega, by go_num, p4.out⟩
      case measure => simp [intOf]; omega
    · obtain rfl : k = N := by omega
      have hg1 : ¬ ((k : Int) + 1 < 8 + 2 * id) := by have := hN.out; omega
      rw [← hs1.out] at pk
      have hcall := Lib.hid (pxTickC pk k hok1.out (by have := hN.out; omega) hc1.out)
      clear pk
      go_wp2_with fail
      refine hcall.out.mono ?_
      rintro r w4 ⟨v4, own4, o4, rfl, p4, k4, q4, e4⟩
      obtain ⟨ad, cp, rfl, had⟩ := q4.len e4
      have hD := Lib.hid (pxDisk p4)
      rw [← hs2.out] at p4
      rw [← hs2.out, hdv.out] at hD
      obtain ⟨m, hm⟩ : ∃ m, m = s1.tick.2.length := ⟨_, rfl⟩
      have hl1 := hlen.out
      have hcl := hcells.out
      rw [← hm] at had hl1 q4 ⊢
      have hq : (((m : Nat) : Int) != n - 1) = false := by simp; omega
      have hm7 : m ≤ 6 := by omega
      replace hl1 := Lib.hid hl1
      replace p4 := Lib.hid p4
      replace q4 := Lib.hid q4
      replace had := Lib.hid had
      have hC := Lib.hid fun wr (hb : Below w4.heap.size w4 wr) (k : Nat) (hk : k < m) (g : Nat) (off : Nat) (ha : ad = some ⟨g, off, none⟩) => by
        have q := q4.out.keep (p4.out.grow hb).2
        have hc := hcl k (by omega)
        have x0 := q.cell e4 g off ha k (by omega) 0 (.int .i64 1) (by omega) (by show some (Value.int .i64 (s1.tick.2[k]).kind) = _; rw [hc.1])
        have x1 := q.cell e4 g off ha k (by omega) 1 (.int .i64 id) (by omega) (by show some (Value.int .i64 (s1.tick.2[k]).frm) = _; rw [hc.2.2.2])
        have x3 := q.cell e4 g off ha k (by omega) 3 (.int .i64 1) (by omega) (by show some (Value.int .i64 (s1.tick.2[k]).boot) = _; rw [hc.2.2.1])
        have x4 := q.cell e4 g off ha k (by omega) 4 (.int .i64 id) (by omega) (by show some (Value.int .i64 (s1.tick.2[k]).view) = _; rw [hc.2.1])
        exact And.intro x0 (And.intro x1 (And.intro x3 x4))
      replace e4 := Lib.hid e4
      replace hm := Lib.hid hm
      clear hcall k4 hcl
      go_wp2_with fail
      refine hD.out.mono ?_
      rintro r wx ⟨rfl, rfl⟩
      clear hD
      go_wp2
      go_loopw [11] (fun i wr => ∃ k : Nat, k ≤ m ∧ i = .int .i64 k ∧ Below w4.heap.size w4 wr) (fun i _ => m - (intOf i).toNat)
      case atStart => exact ⟨0, by omega, rfl, Below.refl _ _⟩
      case round =>
        obtain ⟨j, hj, rfl, hb⟩ := hrel
        by_cases hlt2 : j < m
        · obtain ⟨g, off, hga, hgl⟩ := had.out (by omega)
          obtain ⟨x0, x1, x3, x4⟩ := hC.out _ hb j hlt2 g off hga
          subst hga
          simp only [Nat.add_zero] at x0
          have hb2 := Lib.hid hb
          clear hb
          go_wp2
          go_roundw
          case rel => exact ⟨j + 1, by omega, by go_num, hb2.out⟩
          case measure => simp [intOf]; omega
        · obtain rfl : j = m := by omega
          obtain ⟨p5, k5⟩ := p4.out.grow hb
          have q5 := Lib.hid (q4.out.keep k5)
          have hcall := Lib.hid (pxTickC p5 (k + 1) hok2.out (by have := hN.out; omega) hc2.out)
          clear p5 hb
          go_wp2_with fail
          refine hcall.out.mono ?_
          rintro r w6 ⟨v6, own6, o6, rfl, p6, k6, q6, e6⟩
          have q7 := Lib.hid (q5.out.keep k6)
          have hE := Lib.hid (r12EqMsgs_any _ _ o4 o6 w6 q7.out.rd q6.rd (fun x hx => (q7.out.ents x hx).1) (fun x hx => (q6.ents x hx).1))
          rw [e4.out, e6, heq.out] at hE
          have hbel := Lib.hid p6.bel
          clear hcall p6 k6 q6 e6
          go_wp2_with fail
          refine hE.out.mono ?_
          rintro r w8 ⟨rfl, hb8⟩
          have hfin := Lib.hid (hbel.out.trans (hb8.mono hbel.out.size))
          clear hb8 hE
          go_wp2
          go_ret
          exact ⟨rfl, hfin.out⟩

/-! the row's step, written out by law.py -/
set_option maxRecDepth 100000 in
theorem lifted (os : Os) (started : os.Started) (H : Type) (enc : TypeId × Value → H) :
    ReturnsInHanded {} Tryz.checked os 5 .any (Rows.nodePatienceSpec.pre6 enc Tryz.prog Tryz.f5 Rows.nodePatienceRow.domain false) (Rows.nodePatienceSpec.post enc Tryz.prog Tryz.f5 false true false false) := by
  refine returnsInHanded_of_change_shaped (C := Tryz.checked) own started (by kernel_rfl) Tryz.func5
    (ChangeSpec.witness6 (enc := enc) (C := Tryz.checked) false ⟨#[], #[.int .i64 0, .int .i64 0], []⟩ 8 (by kernel_rfl) (by kernel_rfl) (by kernel_rfl) (by kernel_rfl)) ?_
  intro W base args ds gs before hval0 hW hcnd _ hsh _
  have hval : ∀ (j : Nat) t v, Tryz.f5.params[j]? = some t → args[j]? = some v → Value.okWide Tryz.prog W .any base t v := hval0
  have hW' := hW
  obtain ⟨p, q, hA0, hV, rfl, hfz, hnd⟩ := hW
  have hA : DataW.TrodAll enc Tryz.prog W 0 (fun _ => true) true Tryz.f5.params.toList args.toList ds p := hA0
  rw [Tryz.params5] at hA hval
  obtain ⟨v0, vs0, d0, ds0, p0, q0, hargs, rfl, rfl, h0, r0⟩ := trodAll_cons hA
  obtain ⟨v1, vs1, d1, ds1, p1, q1, rfl, rfl, rfl, h1, r1⟩ := trodAll_cons r0
  obtain ⟨rfl, rfl, rfl⟩ := trodAll_nil r1
  obtain rfl : args = #[v0, v1] := by cases args; simp_all
  obtain ⟨rfl, rfl⟩ := trodVars_none hV
  have k0 := h0
  have lt0 : ∀ x ∈ p0, x.block < W.heap.size := by obtain ⟨m, hm⟩ := k0; exact DataW.trod_lt m _ _ _ hm
  have k1 := h1
  have lt1 : ∀ x ∈ p1, x.block < W.heap.size := by obtain ⟨m, hm⟩ := k1; exact DataW.trod_lt m _ _ _ hm
  obtain ⟨a0, rfl, rfl, rfl, w0⟩ := open_int Tryz.underlying3 (hval 0 3 v0 rfl rfl) h0
  have w0 := bounds_i64 w0
  obtain ⟨a1, rfl, rfl, rfl, w1⟩ := open_int Tryz.underlying3 (hval 1 3 v1 rfl rfl) h1
  have w1 := bounds_i64 w1
  clear hA0 hval0
  simp only [List.append_nil] at hW'
  obtain ⟨m, hm⟩ := maxLen_cell W hsh
  refine (walk m a0 a1 W hm w0 w1).mono fun e W' ⟨he, bel⟩ => ?_
  subst he
  exact ⟨_, rfl, _, _, _, [], _, [], hW', trodAll_mk1 (shut_bool Tryz.underlying4 _), (trodAll_cons_mk (Below.trod laidOut (by kernel_rfl) (of_decide_eq_true (by kernel_rfl)) k0 bel lt0) (trodAll_cons_mk (Below.trod laidOut (by kernel_rfl) (of_decide_eq_true (by kernel_rfl)) k1 bel lt1) trodAll_mk0)), rfl, bel.frame _, fun h => by cases h⟩

theorem over : Rows.nodePatienceRow.holds Tryz.pinned (OpenSpec.ofChange Rows.nodePatienceSpec) :=
  OpenClaim.holds_of_wide 5 Tryz.f5 rfl rfl rfl rfl rfl rfl rfl ⟨rfl, rfl, rfl, rfl, rfl⟩ rfl rfl rfl rfl rfl (by kernel_rfl) Tryz.func5 (by kernel_rfl)
    (of_decide_eq_true (by kernel_rfl)) (by unfold Func.isWrapper; first | (rw [if_pos (by decide +kernel)]; kernel_rfl) | (rw [if_neg (by decide +kernel)]; exact ⟨rfl, rfl⟩))
    (fun os started H enc _ => lifted os started H enc)

theorem proved : Rows.NodePatienceSaid := over
end Go.Proofs.YtphlcbbdpmkipaaGreat.lawNodePatience
