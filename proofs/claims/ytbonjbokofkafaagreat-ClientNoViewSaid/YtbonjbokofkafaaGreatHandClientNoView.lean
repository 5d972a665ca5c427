/- Of a process that is in no view nothing is cast or told, and it says so. -/
import Derived.Test.YtbonjbokofkafaaGreatPkW
import Derived.Test.YtbonjbokofkafaaGreatPkK
import Derived.Test.YtbonjbokofkafaaGreatPkA
namespace Go.Proofs.YtbonjbokofkafaaGreat.lawClientNoView
open Go.ChangeShapes Go.WideShapes Go.ChangeAt Go.RowKit
set_option linter.unusedVariables false

theorem out_k : ∀ k, k < 10 → (tickN B0 k).in_ = false ∧ (tickN B0 k).L.length = 0 ∧ (tickN B0 k).pend.length = 0 ∧ (tickN B0 k).td.length = 0 := by decide +kernel
theorem cast_out {s : Nd} (h : s.in_ = false) (o l : Int) (d : ByteArray) : s.cast o l d = (s, 6) := by unfold Nd.cast; rw [h]; rfl
set_option maxRecDepth 100000 in
set_option maxHeartbeats 16000000 in
theorem walk (mm a0 a1 : Int) (w : World) (hmm : w.cell? ⟨0, 0, none⟩ = some (.int .i64 mm)) (h0 : -9223372036854775808 ≤ a0 ∧ a0 ≤ 9223372036854775807) (h1 : -9223372036854775808 ≤ a1 ∧ a1 ≤ 9223372036854775807) :
    Calls Tryz.prog 6 #[.int .i64 a0, .int .i64 a1] w fun r w' => r = .returned (.bool true) ∧ Below w.heap.size w w' := by
  have hB := Lib.hid (b26_any w ⟨mm, hmm⟩)
  have m0 := Lib.hid (⟨mm, hmm⟩ : ∃ m, w.cell? ⟨0, 0, none⟩ = some (.int .i64 m))
  clear hmm
  by_cases hr : (0 ≤ a0 ∧ a0 ≤ 9) ∧ (0 ≤ a1 ∧ a1 ≤ 9)
  case neg =>
    have hr2 : a0 < 0 ∨ ¬ a0 < 0 ∧ 9 < a0 ∨ ¬ a0 < 0 ∧ ¬ 9 < a0 ∧ a1 < 0 ∨ ¬ a0 < 0 ∧ ¬ 9 < a0 ∧ ¬ a1 < 0 ∧ 9 < a1 := by omega
    clear hr
    go_enter Tryz.func6, Tryz.ntmps6
    go_wp2_with fail
    refine hB.out.mono ?_
    rintro r w1 ⟨rfl, hb1⟩
    replace hb1 := Lib.hid hb1
    rcases hr2 with h | ⟨h, h'⟩ | ⟨h, h', h''⟩ | ⟨h, h', h'', h3⟩
    · have e1 : decide (a0 < 0) = true := decide_eq_true (by omega)
      go_wp2
      go_ret
      exact ⟨rfl, hb1.out⟩
    · have e1 : decide (a0 < 0) = false := decide_eq_false (by omega)
      have e2 : decide (9 < a0) = true := decide_eq_true (by omega)
      go_wp2
      go_ret
      exact ⟨rfl, hb1.out⟩
    · have e1 : decide (a0 < 0) = false := decide_eq_false (by omega)
      have e2 : decide (9 < a0) = false := decide_eq_false (by omega)
      have e3 : decide (a1 < 0) = true := decide_eq_true (by omega)
      go_wp2
      go_ret
      exact ⟨rfl, hb1.out⟩
    · have e1 : decide (a0 < 0) = false := decide_eq_false (by omega)
      have e2 : decide (9 < a0) = false := decide_eq_false (by omega)
      have e3 : decide (a1 < 0) = false := decide_eq_false (by omega)
      have e4 : decide (9 < a1) = true := decide_eq_true (by omega)
      go_wp2
      go_ret
      exact ⟨rfl, hb1.out⟩
  case pos =>
    obtain ⟨⟨hr1, hr2⟩, hr3, hr4⟩ := hr
    obtain ⟨t, rfl⟩ : ∃ t : Nat, a0 = (t : Int) := ⟨a0.toNat, by omega⟩
    obtain ⟨q, rfl⟩ : ∃ q : Nat, a1 = (q : Int) := ⟨a1.toNat, by omega⟩
    have ht : t ≤ 9 := by omega
    have hq : q ≤ 9 := by omega
    have e1 : decide ((t : Int) < 0) = false := decide_eq_false (by omega)
    have e2 : decide ((9 : Int) < (t : Int)) = false := decide_eq_false (by omega)
    have e3 : decide ((q : Int) < 0) = false := decide_eq_false (by omega)
    have e4 : decide ((9 : Int) < (q : Int)) = false := decide_eq_false (by omega)
    clear hr1 hr2 hr3 hr4 h0 h1
    go_enter Tryz.func6, Tryz.ntmps6
    go_wp2_with fail
    refine hB.out.mono ?_
    rintro r w1 ⟨rfl, hb1⟩
    obtain ⟨W1, hW1⟩ : ∃ W, W = w1.alloc (.cells #[.int .i64 0, .int .i64 0] 67) := ⟨_, rfl⟩
    have hB1 : Below w.heap.size w W1 := hW1 ▸ hb1.alloc hb1.size _
    have hd1 : dkO W1 w1.heap.size 0 #[.int .i64 0, .int .i64 0] 67 0 0 := hW1 ▸ dkO_new w1 0
    have hMk := Lib.hid (gxMake W1 1 3 0 0 w1.heap.size _ _ w hb1.size hB1 hd1 m0.out (by omega) (by omega) (by omega) (by omega) (by omega) (by omega) (by omega) (by omega))
    replace hB1 := Lib.hid hB1
    replace hd1 := Lib.hid hd1
    replace hb1 := Lib.hid hb1
    obtain ⟨dk, hdk⟩ : ∃ dk, dk = w1.heap.size := ⟨_, rfl⟩
    rw [← hdk] at hMk
    clear hB
    go_wp2_with fail
    rw [← hW1, ← hdk]
    replace hW1 := Lib.hid hW1
    replace hdk := Lib.hid hdk
    refine hMk.out.mono ?_
    rintro r w2 ⟨own2, b, rfl, p2⟩
    have hcl := Lib.hid (gxClient (show GX own2 w w2 b dk 0 B0 from p2))
    clear hMk p2
    go_wp2_with fail
    refine hcl.out.mono ?_
    rintro r w3 ⟨own3, cb, rfl, g3, x3, _, _⟩
    replace g3 := Lib.hid g3
    replace x3 := Lib.hid x3
    clear hcl e1 e2 e3 e4
    go_wp2
    go_loopw [9] (fun i wr => ∃ (k : Nat) (own : Nat → Nat), k ≤ t ∧ i = .int .i64 k ∧ GX own w wr b dk (3 * k) (tickN B0 k) ∧ CX own wr cb b 0 0) (fun i _ => t - (intOf i).toNat)
    case atStart => exact ⟨0, own3, Nat.zero_le _, rfl, g3.out, x3.out⟩
    case round =>
      obtain ⟨k, own, hk, rfl, pk, xk⟩ := hrel
      by_cases hlt : k < t
      · have hcall := Lib.hid (gxTick pk (by omega))
        clear pk
        replace xk := Lib.hid xk
        go_wp2_with fail
        refine hcall.out.mono ?_
        rintro r w4 ⟨v4, own4, o4, rfl, p4, k4, q4, e4⟩
        have x4 := Lib.hid (xk.out.keep k4)
        have p4 := Lib.hid (show GX own4 w w4 b dk (3 * (k + 1)) (tickN B0 (k + 1)) from p4)
        clear hcall k4 q4 e4
        go_wp2
        go_roundw
        case rel => exact ⟨k + 1, own4, by omega, by go_num, p4.out, x4.out⟩
        case measure => simp [intOf]; omega
      · have hkt : k = t := by omega
        subst hkt
        obtain ⟨f1, f2, f3, f4⟩ := out_k k (by omega)
        generalize tickN B0 k = S at pk f1 f2 f3 f4
        replace pk := Lib.hid pk
        replace xk := Lib.hid xk
        replace f1 := Lib.hid f1
        replace f2 := Lib.hid f2
        replace f3 := Lib.hid f3
        replace f4 := Lib.hid f4
        go_wp2
        go_loopw [10] (fun i wr => ∃ (j : Nat) (own : Nat → Nat), j ≤ q ∧ i = .int .i64 j ∧ GX own w wr b dk (3 * k) S ∧ CX own wr cb b 0 j) (fun i _ => q - (intOf i).toNat)
        case atStart => exact ⟨0, own, Nat.zero_le _, rfl, pk.out, xk.out⟩
        case round =>
          obtain ⟨j, own5, hj, rfl, gj, xj⟩ := hrel
          by_cases hlt2 : j < q
          · have hcall := cxCast gj xj (by omega) (by omega) 0 0 ⟨#[120]⟩
            rw [cast_out f1.out] at hcall
            replace hcall := Lib.hid hcall
            clear gj xj
            go_wp2_with fail
            refine hcall.out.mono ?_
            rintro r w6 ⟨own6, rfl, g6, x6, _⟩
            have x6 := Lib.hid (show CX own6 w6 cb b 0 ((j + 1 : Nat) : Int) from by simpa using x6)
            replace g6 := Lib.hid g6
            clear hcall
            go_wp2
            go_roundw
            case rel => exact ⟨j + 1, own6, by omega, by go_num, g6.out, x6.out⟩
            case measure => simp [intOf]; omega
          · have hjq : j = q := by omega
            subst hjq
            have hG := cxGet gj xj (by omega) nameA (by decide)
            have hgt : S.get nameA = (⟨#[]⟩, 6) := by unfold Nd.get; rw [f1.out]; rfl
            rw [hgt] at hG
            replace hG := Lib.hid hG
            replace gj := Lib.hid gj
            replace xj := Lib.hid xj
            replace hgt := Lib.hid hgt
            go_wp2_with fail
            refine hG.out.mono ?_
            rintro r w7 ⟨rfl, hb7⟩
            have g7 := Lib.hid (gj.out.grow hb7)
            have x7 := Lib.hid (xj.out.grow hb7)
            have hS := cxStatus g7.out x7.out (by omega)
            have hv : S.view = (0, 0, false) := by unfold Nd.view; rw [f1.out]; rfl
            have hgd : S.good = false := by unfold Nd.good; rw [f1.out]; rfl
            unfold stV at hS
            rw [hv, hgd, f2.out, f3.out, f4.out] at hS
            generalize S.com = y1 at hS
            replace hS := Lib.hid hS
            replace hv := Lib.hid hv
            replace hgd := Lib.hid hgd
            clear hG hb7
            go_wp2_with fail
            refine hS.out.mono ?_
            rintro r w8 ⟨rfl, hb8⟩
            obtain ⟨W8, hW8⟩ : ∃ W, W = w8.alloc (.cells #[.bool true, .bool false, .bool false, .int .i64 0, .int .i64 0, .int .i64 y1, .int .i64 0, .int .i64 0] 47) := ⟨_, rfl⟩
            obtain ⟨sb, hsb⟩ : ∃ x, x = w8.heap.size := ⟨_, rfl⟩
            have hba : Below w7.heap.size w7 W8 := hW8 ▸ hb8.alloc hb8.size _
            have hx8 : W8.heap[sb]? = some (.cells #[.bool true, .bool false, .bool false, .int .i64 0, .int .i64 0, .int .i64 y1, .int .i64 0, .int .i64 0] 47 (0, 0)) := hW8 ▸ hsb ▸ at_new _ _
            have g8 := Lib.hid (g7.out.grow hba)
            have x8 := x7.out.grow hba
            have hn : sb ≠ cb := by have := at_lt x7.out.o; have := hb8.size; omega
            have hL := Lib.hid (cxLost x8)
            replace x8 := Lib.hid x8
            clear hS hba hb8
            go_wp2_with fail
            rw [← hW8, ← hsb]
            replace hW8 := Lib.hid hW8
            replace hsb := Lib.hid hsb
            refine hL.out.mono ?_
            rintro r w9 ⟨rfl, hb9⟩
            have hx9 := at_below hx8 hb9
            have g9 := g8.out.grow hb9
            have x9 := x8.out.grow hb9
            have z0 := cell_at hx9 0
            have z1 := cell_at hx9 1
            have z2 := cell_at hx9 2
            have z3 := cell_at hx9 3
            have z4 := cell_at hx9 4
            have z7 := cell_at hx9 7
            have lz := at_lt hx9
            have hP := Lib.hid (cxPoll (k := 0) g9 x9 (by omega) (Nat.zero_le _))
            replace hx8 := Lib.hid hx8
            replace hx9 := Lib.hid hx9
            replace g9 := Lib.hid g9
            replace x9 := Lib.hid x9
            clear hL hb9
            go_wp2_with fail
            refine hP.out.mono ?_
            rintro r wa ⟨va, rfl, ga, xa, ka, ra, fa⟩
            obtain ⟨aa, ca, hva⟩ := ra.len
            rw [List.length_drop, f4.out] at hva
            subst hva
            have hfin := Lib.hid ga.px.bel
            clear hP ga xa ka ra fa
            go_wp2
            go_ret
            exact ⟨rfl, hfin.out⟩

/-! the row's step, written out by law.py -/
set_option maxRecDepth 100000 in
theorem lifted (os : Os) (started : os.Started) (H : Type) (enc : TypeId × Value → H) :
    ReturnsInHanded {} Tryz.checked os 6 .any (Rows.clientNoViewSpec.pre6 enc Tryz.prog Tryz.f6 Rows.clientNoViewRow.domain false) (Rows.clientNoViewSpec.post enc Tryz.prog Tryz.f6 false true false false) := by
  refine returnsInHanded_of_change_shaped (C := Tryz.checked) own started (by kernel_rfl) Tryz.func6
    (ChangeSpec.witness6 (enc := enc) (C := Tryz.checked) false ⟨#[], #[.int .i64 0, .int .i64 0], []⟩ 8 (by kernel_rfl) (by kernel_rfl) (by kernel_rfl) (by kernel_rfl)) ?_
  intro W base args ds gs before hval0 hW hcnd _ hsh _
  have hval : ∀ (j : Nat) t v, Tryz.f6.params[j]? = some t → args[j]? = some v → Value.okWide Tryz.prog W .any base t v := hval0
  have hW' := hW
  obtain ⟨p, q, hA0, hV, rfl, hfz, hnd⟩ := hW
  have hA : DataW.TrodAll enc Tryz.prog W 0 (fun _ => true) true Tryz.f6.params.toList args.toList ds p := hA0
  rw [Tryz.params6] at hA hval
  obtain ⟨v0, vs0, d0, ds0, p0, q0, hargs, rfl, rfl, h0, r0⟩ := trodAll_cons hA
  obtain ⟨v1, vs1, d1, ds1, p1, q1, rfl, rfl, rfl, h1, r1⟩ := trodAll_cons r0
  obtain ⟨rfl, rfl, rfl⟩ := trodAll_nil r1
  obtain rfl : args = #[v0, v1] := by cases args; simp_all
  obtain ⟨rfl, rfl⟩ := trodVars_none hV
  have k0 := h0
  have lt0 : ∀ x ∈ p0, x.block < W.heap.size := by obtain ⟨m, hm⟩ := k0; exact DataW.trod_lt m _ _ _ hm
  have k1 := h1
  have lt1 : ∀ x ∈ p1, x.block < W.heap.size := by obtain ⟨m, hm⟩ := k1; exact DataW.trod_lt m _ _ _ hm
  obtain ⟨a0, rfl, rfl, rfl, w0⟩ := open_int Tryz.underlying3 (hval 0 3 v0 rfl rfl) h0
  have w0 := bounds_i64 w0
  obtain ⟨a1, rfl, rfl, rfl, w1⟩ := open_int Tryz.underlying3 (hval 1 3 v1 rfl rfl) h1
  have w1 := bounds_i64 w1
  clear hA0 hval0
  simp only [List.append_nil] at hW'
  obtain ⟨m, hm⟩ := maxLen_cell W hsh
  refine (walk m a0 a1 W hm w0 w1).mono fun e W' ⟨he, bel⟩ => ?_
  subst he
  exact ⟨_, rfl, _, _, _, [], _, [], hW', trodAll_mk1 (shut_bool Tryz.underlying4 _), (trodAll_cons_mk (Below.trod laidOut (by kernel_rfl) (of_decide_eq_true (by kernel_rfl)) k0 bel lt0) (trodAll_cons_mk (Below.trod laidOut (by kernel_rfl) (of_decide_eq_true (by kernel_rfl)) k1 bel lt1) trodAll_mk0)), rfl, bel.frame _, fun h => by cases h⟩

theorem over : Rows.clientNoViewRow.holds Tryz.pinned (OpenSpec.ofChange Rows.clientNoViewSpec) :=
  OpenClaim.holds_of_wide 6 Tryz.f6 rfl rfl rfl rfl rfl rfl rfl ⟨rfl, rfl, rfl, rfl, rfl⟩ rfl rfl rfl rfl rfl (by kernel_rfl) Tryz.func6 (by kernel_rfl)
    (of_decide_eq_true (by kernel_rfl)) (by unfold Func.isWrapper; first | (rw [if_pos (by decide +kernel)]; kernel_rfl) | (rw [if_neg (by decide +kernel)]; exact ⟨rfl, rfl⟩))
    (fun os started H enc _ => lifted os started H enc)

theorem proved : Rows.ClientNoViewSaid := over
end Go.Proofs.YtbonjbokofkafaaGreat.lawClientNoView
