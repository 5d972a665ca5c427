/- Sixty entries there may be: for all n; no condition. -/
import Derived.Test.YtnkiifodcmfmiaaBegun
import Derived.Test.YtnkiifodcmfmiaaFrame
namespace Go.Proofs.Ytnkiifodcmfmiaa.lawLogFull
open Go.ChangeShapes Go.WideShapes Go.ChangeAt Go.RowKit
set_option linter.unusedVariables false

abbrev entN (n : Nat) : Ent := ⟨1, 1, (n : Int) + 1, 0, 0, 0, ⟨#[]⟩⟩
def fullE (k : Nat) : List Ent := (List.range (min k 60)).map entN
theorem full_ok : ∀ k, k < 70 → okAdd (fullE k) (entN k) = decide (k < 60) := by decide +kernel
theorem full_len (k : Nat) : (fullE k).length = min k 60 := by simp [fullE]
theorem full_add {k : Nat} (h : k < 70) : addE (fullE k) (entN k) = fullE (k + 1) := by
  unfold addE
  rw [full_ok k h]
  by_cases h6 : k < 60
  · rw [if_pos (by simpa using h6)]
    unfold fullE
    rw [show min k 60 = k by omega, show min (k + 1) 60 = k + 1 by omega, List.range_succ, List.map_append]
    rfl
  · rw [if_neg (by simpa using h6)]
    unfold fullE
    rw [show min k 60 = 60 by omega, show min (k + 1) 60 = 60 by omega]

set_option maxHeartbeats 1000000 in
theorem walk (n : Int) (w : World) (hn : I64 n) :
    Calls Try.prog 6 #[.int .i64 n] w fun e w' => e = .returned (.bool true) ∧ Below w.heap.size w w' := by
  clear hn
  by_cases h0 : n < 0
  · go_enter Try.func6, Try.ntmps6
    go_wp2_with fail
    refine (b13_any _).mono ?_
    rintro e w1 ⟨rfl, hb1⟩
    go_wp2
    go_ret
    exact ⟨rfl, hb1⟩
  by_cases h7 : 70 < n
  · go_enter Try.func6, Try.ntmps6
    go_wp2_with fail
    refine (b13_any _).mono ?_
    rintro e w1 ⟨rfl, hb1⟩
    go_wp2
    go_ret
    exact ⟨rfl, hb1⟩
  obtain ⟨N, rfl⟩ : ∃ N : Nat, n = N := ⟨n.toNat, by omega⟩
  have hN : N ≤ 70 := by omega
  go_enter Try.func6, Try.ntmps6
  go_wp2_with fail
  refine (b13_any _).mono ?_
  rintro e w1 ⟨rfl, hb1⟩
  go_wp2_with fail
  refine (logNew_any _ [] _ (rdE_nil w1 none 0 (by decide))).mono ?_
  rintro e w2 ⟨b, rfl, hbb, hlg, hb2⟩
  have hB2 := hb1.trans (hb2.mono hb1.size)
  have hs := hb1.size
  replace hlg := Lib.hid (hlg.mono (G := fun k => w.heap.size ≤ k) fun k hk => Nat.le_trans hs hk.1)
  replace hB2 := Lib.hid hB2
  clear hb1 hb2 hs hbb
  go_wp2
  go_loopw [5] (fun i wr => ∃ k : Nat, k ≤ N ∧ i = .int .i64 k ∧ lgO wr (fun k => w.heap.size ≤ k) b (fullE k) ∧ Below w.heap.size w wr) (fun i _ => N - (intOf i).toNat)
  case atStart => exact ⟨0, Nat.zero_le _, rfl, hlg.out, hB2.out⟩
  case round =>
    obtain ⟨k, hk, rfl, hl, hbel⟩ := hrel
    clear hlg hB2
    by_cases hlt : k < N
    · have hok := full_ok k (by omega)
      have had := full_add (k := k) (by omega)
      have hC := logAdd_any b (fullE k) (entN k) _ wr hl (by rw [full_len]; omega)
      rw [hok, had] at hC
      have hC' : Calls Try.prog 16 #[.pointer (some ⟨b, 0, none⟩), (entN k).val] wr fun r w' => r = .returned (.bool (decide (k < 60))) ∧ lgO w' (fun k => w.heap.size ≤ k) b (fullE (k + 1)) ∧ Below w.heap.size w w' := by
        refine hC.mono fun r w' ⟨h1, h2, h3⟩ => ⟨h1, h2.mono fun x hx => hx.elim id fun hx => Nat.le_trans hbel.size hx.1, hbel.trans (h3.below hbel.size fun x hx => hx)⟩
      clear hC hok had hl hbel
      simp only [Ent.val] at hC'
      replace hC' := Lib.hid hC'
      by_cases h6 : k < 60
      · have hd : decide ((k : Int) < 60) = true := by simp <;> omega
        go_wp2_with fail
        refine hC'.out.mono ?_
        rintro r w3 ⟨rfl, h1, h2⟩
        rw [decide_eq_true h6]
        clear hC'
        go_wp2
        go_roundw
        case rel => exact ⟨k + 1, by omega, by go_num, h1, h2⟩
        case measure => simp [intOf]; omega
      · have hd : decide ((k : Int) < 60) = false := by simp <;> omega
        go_wp2_with fail
        refine hC'.out.mono ?_
        rintro r w3 ⟨rfl, h1, h2⟩
        rw [decide_eq_false h6]
        clear hC'
        go_wp2
        go_roundw
        case rel => exact ⟨k + 1, by omega, by go_num, h1, h2⟩
        case measure => simp [intOf]; omega
    · obtain rfl : k = N := by omega
      have hln := full_len k
      have hrl := hl.rd
      clear hl
      go_wp2_with fail
      refine (logLen_any b _ _ hrl).mono ?_
      rintro r w3 ⟨rfl, rfl⟩
      rw [hln]
      clear hln hrl
      by_cases h6 : k ≤ 60
      · rw [show min k 60 = k by omega]
        have hd : decide ((k : Int) ≤ 60) = true := by simp <;> omega
        go_wp2
        go_ret
        exact ⟨ret_bool (by simp <;> omega), hbel⟩
      · rw [show min k 60 = 60 by omega]
        have hd : decide ((k : Int) ≤ 60) = false := by simp <;> omega
        go_wp2
        go_ret
        exact ⟨ret_bool (by simp <;> omega), hbel⟩

/-! the row's step, written out by law.py -/
set_option maxRecDepth 100000 in
theorem lifted (os : Os) (started : os.Started) (H : Type) (enc : TypeId × Value → H) :
    ReturnsInHanded {} Try.checked os 6 .any (Rows.logFullSpec.pre6 enc Try.prog Try.f6 Rows.logFullRow.domain false) (Rows.logFullSpec.post enc Try.prog Try.f6 false true false false) := by
  refine returnsInHanded_of_change (C := Try.checked) own started (by kernel_rfl) Try.func6
    (ChangeSpec.witness6 (enc := enc) (C := Try.checked) false ⟨#[], #[.int .i64 0], []⟩ 8 (by kernel_rfl) (by kernel_rfl) (by kernel_rfl) (by kernel_rfl)) ?_
  intro W base args ds gs before hval0 hW hcnd _
  have hval : ∀ (j : Nat) t v, Try.f6.params[j]? = some t → args[j]? = some v → Value.okWide Try.prog W .any base t v := hval0
  have hW' := hW
  obtain ⟨p, q, hA0, hV, rfl, hfz, hnd⟩ := hW
  have hA : DataW.TrodAll enc Try.prog W 0 (fun _ => true) true Try.f6.params.toList args.toList ds p := hA0
  rw [Try.params6] at hA hval
  obtain ⟨v0, vs0, d0, ds0, p0, q0, hargs, rfl, rfl, h0, r0⟩ := trodAll_cons hA
  obtain ⟨rfl, rfl, rfl⟩ := trodAll_nil r0
  obtain rfl : args = #[v0] := by cases args; simp_all
  obtain ⟨rfl, rfl⟩ := trodVars_none hV
  have k0 := h0
  have lt0 : ∀ x ∈ p0, x.block < W.heap.size := by obtain ⟨m, hm⟩ := k0; exact DataW.trod_lt m _ _ _ hm
  obtain ⟨a0, rfl, rfl, rfl, w0⟩ := open_int Try.underlying3 (hval 0 3 v0 rfl rfl) h0
  have w0 := bounds_i64 w0
  clear hA0 hval0
  simp only [List.append_nil] at hW'
  refine (walk a0 W w0).mono fun e W' ⟨he, bel⟩ => ?_
  subst he
  exact ⟨_, rfl, _, _, _, [], _, [], hW', trodAll_mk1 (shut_bool Try.underlying4 _), (trodAll_cons_mk (Below.trod laidOut (by kernel_rfl) (of_decide_eq_true (by kernel_rfl)) k0 bel lt0) trodAll_mk0), rfl, bel.frame _, fun h => by cases h⟩

theorem over : Rows.logFullRow.holds Try.pinned (OpenSpec.ofChange Rows.logFullSpec) :=
  OpenClaim.holds_of_wide 6 Try.f6 rfl rfl rfl rfl rfl rfl rfl ⟨rfl, rfl, rfl, rfl, rfl⟩ rfl rfl rfl rfl rfl (by kernel_rfl) Try.func6 (by kernel_rfl)
    (of_decide_eq_true (by kernel_rfl)) (by unfold Func.isWrapper; first | (rw [if_pos (by decide +kernel)]; kernel_rfl) | (rw [if_neg (by decide +kernel)]; exact ⟨rfl, rfl⟩))
    (fun os started H enc _ => lifted os started H enc)

theorem proved : Rows.LogFullSaid := over
end Go.Proofs.Ytnkiifodcmfmiaa.lawLogFull
