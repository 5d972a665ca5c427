/- Which list is the beginning of which: for all lists and n; no condition. -/
import Derived.Test.YtnkiifodcmfmiaaBegun
import Derived.Test.YtnkiifodcmfmiaaEntO
namespace Go.Proofs.Ytnkiifodcmfmiaa.lawLogFront
open Go.ChangeShapes Go.WideShapes Go.ChangeAt Go.RowKit
set_option linter.unusedVariables false

theorem front_take {m : List Ent} {K : Nat} (h : K ≤ m.length) : frontE (m.take K) m = true := by
  unfold frontE
  rw [List.length_take, show min K m.length = K by omega, eqAll_refl]
  simpa using h

set_option maxHeartbeats 2000000 in
theorem walk (v : Value) (l : List Ent) (v2 : Value) (l2 : List Ent) (n : Int) (w : World) (hr : rdE w v l) (hd : ∀ e ∈ l, e.data.size ≤ 9223372036854775807) (hr2 : rdE w v2 l2) (hd2 : ∀ e ∈ l2, e.data.size ≤ 9223372036854775807) (hn : I64 n) :
    Calls Try.prog 5 #[v, v2, .int .i64 n] w fun e w' => e = .returned (.bool true) ∧ Below w.heap.size w w' := by
  clear hn
  replace hr := Lib.hid hr
  replace hr2 := Lib.hid hr2
  replace hd := Lib.hid hd
  replace hd2 := Lib.hid hd2
  go_enter Try.func5, Try.ntmps5
  go_wp2_with fail
  refine (b13_any _).mono ?_
  rintro e w1 ⟨rfl, hb1⟩
  go_wp2_with fail
  refine (entries12_any _ l 8 _ (hr.out.grow hb1) hd.out (by omega) (by omega)).mono ?_
  rintro e w2 ⟨x1, rfl, ho1, hb2⟩
  have hB2 := hb1.trans (hb2.mono hb1.size)
  clear hb1 hb2
  go_wp2_with fail
  refine (entries12_any _ l2 8 _ (hr2.out.grow hB2) hd2.out (by omega) (by omega)).mono ?_
  rintro e w3 ⟨x2, rfl, ho2, hb3⟩
  have hB3 := hB2.trans (hb3.mono hB2.size)
  have r1 := ho1.rd.grow hb3
  have r2 := ho2.rd
  clear ho1 ho2 hb3 hB2 hr hr2 hd hd2
  generalize mapCut l _ = A at r1
  generalize mapCut l2 _ = B at r2
  have R1 := Lib.hid r1
  have R2 := Lib.hid r2
  obtain ⟨a1, c1, rfl, hm1, hM1, _⟩ := r1
  obtain ⟨a2, c2, rfl, hm2, hM2, _⟩ := r2
  unfold maxLen at hM1 hM2
  have last : ∀ (w4 : World), Below w.heap.size w w4 → rdE w4 (.slice a2 B.length c2) B → True := fun _ _ _ => trivial
  clear last
  have tail : ∀ K : Nat, K ≤ B.length → ∀ w4, Below w3.heap.size w3 w4 → Calls Try.prog 21 #[.slice a2 K c2, .slice a2 B.length c2] w4 fun r w' => r = .returned (.bool true) ∧ Below w.heap.size w w' := by
    intro K hK w4 hb4
    have hg := R2.out.grow hb4
    refine (logFront_any _ _ (B.take K) B w4 (by simpa using rdE_take hg K hK) hg).mono ?_
    rintro r w5 ⟨rfl, hb5⟩
    rw [front_take hK]
    have h4 := hB3.trans (hb4.mono hB3.size)
    exact ⟨rfl, h4.trans (hb5.mono h4.size)⟩
  replace tail := Lib.hid tail
  by_cases hle : A.length ≤ B.length
  · have hfr : frontE A B = eqAll A (B.take A.length) := by simp [frontE, hle]
    have d1 : decide ((A.length : Int) ≤ (B.length : Int)) = true := by simp <;> omega
    have d1' : decide (A.length ≤ B.length) = true := by simp <;> omega
    have hle2 : A.length ≤ c2 := by omega
    have hT := Lib.hid (rdE_take R2.out A.length hle)
    go_wp2_with fail
    refine (r12EqAll_any _ _ A (B.take A.length) _ R1.out (by simpa using hT.out)).mono ?_
    rintro r w4 ⟨rfl, hb4⟩
    go_wp2_with fail
    refine (logFront_any _ _ A B _ (R1.out.grow hb4) (R2.out.grow hb4)).mono ?_
    rintro r w5 ⟨rfl, hb5⟩
    rw [hfr]
    have hb45 := hb4.trans (hb5.mono hb4.size)
    have hB5 := hB3.trans (hb45.mono hB3.size)
    clear hb4 hb5 hfr
    by_cases h0 : n < 0
    · have hneq : ∀ x : Bool, (x != x) = false := fun x => by cases x <;> rfl
      cases hq : eqAll A (B.take A.length) <;>
      (go_wp2
       go_ret
       exact ⟨rfl, hB5⟩)
    by_cases h1 : (B.length : Int) < n
    · cases hq : eqAll A (B.take A.length) <;>
      (go_wp2
       go_ret
       exact ⟨rfl, hB5⟩)
    obtain ⟨K, rfl⟩ : ∃ K : Nat, n = K := ⟨n.toNat, by omega⟩
    have hK : K ≤ B.length := by omega
    have hKc : K ≤ c2 := by omega
    have hC := Lib.hid (tail.out K hK _ hb45)
    cases hq : eqAll A (B.take A.length) <;>
    (go_wp2_with fail
     refine hC.out.mono ?_
     rintro r w6 ⟨rfl, hB6⟩
     go_wp2
     go_ret
     exact ⟨rfl, hB6⟩)
  · have hfr : frontE A B = false := by simp [frontE, hle]
    have d1 : decide ((A.length : Int) ≤ (B.length : Int)) = false := by simp <;> omega
    have d1' : decide (A.length ≤ B.length) = false := by simp <;> omega
    go_wp2_with fail
    refine (logFront_any _ _ A B _ R1.out R2.out).mono ?_
    rintro r w5 ⟨rfl, hb5⟩
    rw [hfr]
    have hB5 := hB3.trans (hb5.mono hB3.size)
    clear hfr
    by_cases h0 : n < 0
    · go_wp2
      go_ret
      exact ⟨rfl, hB5⟩
    by_cases h1 : (B.length : Int) < n
    · go_wp2
      go_ret
      exact ⟨rfl, hB5⟩
    obtain ⟨K, rfl⟩ : ∃ K : Nat, n = K := ⟨n.toNat, by omega⟩
    have hK : K ≤ B.length := by omega
    have hKc : K ≤ c2 := by omega
    have hC := Lib.hid (tail.out K hK _ hb5)
    go_wp2_with fail
    refine hC.out.mono ?_
    rintro r w6 ⟨rfl, hB6⟩
    go_wp2
    go_ret
    exact ⟨rfl, hB6⟩

/-! the row's step, written out by law.py -/
set_option maxRecDepth 100000 in
theorem lifted (os : Os) (started : os.Started) (H : Type) (enc : TypeId × Value → H) :
    ReturnsInHanded {} Try.checked os 5 .any (Rows.logFrontSpec.pre6 enc Try.prog Try.f5 Rows.logFrontRow.domain false) (Rows.logFrontSpec.post enc Try.prog Try.f5 false true false false) := by
  refine returnsInHanded_of_change (C := Try.checked) own started (by kernel_rfl) Try.func5
    (ChangeSpec.witness6 (enc := enc) (C := Try.checked) false ⟨#[], #[.slice none 0 0, .slice none 0 0, .int .i64 0], []⟩ 8 (by kernel_rfl) (by kernel_rfl) (by kernel_rfl) (by kernel_rfl)) ?_
  intro W base args ds gs before hval0 hW hcnd _
  have hval : ∀ (j : Nat) t v, Try.f5.params[j]? = some t → args[j]? = some v → Value.okWide Try.prog W .any base t v := hval0
  have hW' := hW
  obtain ⟨p, q, hA0, hV, rfl, hfz, hnd⟩ := hW
  have hA : DataW.TrodAll enc Try.prog W 0 (fun _ => true) true Try.f5.params.toList args.toList ds p := hA0
  rw [Try.params5] at hA hval
  obtain ⟨v0, vs0, d0, ds0, p0, q0, hargs, rfl, rfl, h0, r0⟩ := trodAll_cons hA
  obtain ⟨v1, vs1, d1, ds1, p1, q1, rfl, rfl, rfl, h1, r1⟩ := trodAll_cons r0
  obtain ⟨v2, vs2, d2, ds2, p2, q2, rfl, rfl, rfl, h2, r2⟩ := trodAll_cons r1
  obtain ⟨rfl, rfl, rfl⟩ := trodAll_nil r2
  obtain rfl : args = #[v0, v1, v2] := by cases args; simp_all
  obtain ⟨rfl, rfl⟩ := trodVars_none hV
  have k0 := h0
  have lt0 : ∀ x ∈ p0, x.block < W.heap.size := by obtain ⟨m, hm⟩ := k0; exact DataW.trod_lt m _ _ _ hm
  have k1 := h1
  have lt1 : ∀ x ∈ p1, x.block < W.heap.size := by obtain ⟨m, hm⟩ := k1; exact DataW.trod_lt m _ _ _ hm
  have k2 := h2
  have lt2 : ∀ x ∈ p2, x.block < W.heap.size := by obtain ⟨m, hm⟩ := k2; exact DataW.trod_lt m _ _ _ hm
  obtain ⟨l0, w0, b0⟩ := slentry_open (hval 0 22 v0 rfl rfl) h0
  obtain ⟨l1, w1, b1⟩ := slentry_open (hval 1 22 v1 rfl rfl) h1
  obtain ⟨a2, rfl, rfl, rfl, w2⟩ := open_int Try.underlying3 (hval 2 3 v2 rfl rfl) h2
  have w2 := bounds_i64 w2
  clear hA0 hval0
  simp only [List.append_nil] at hW'
  refine (walk v0 l0 v1 l1 a2 W w0 b0 w1 b1 w2).mono fun e W' ⟨he, bel⟩ => ?_
  subst he
  exact ⟨_, rfl, _, _, _, [], _, [], hW', trodAll_mk1 (shut_bool Try.underlying4 _), (trodAll_cons_mk (Below.trod laidOut (by kernel_rfl) (of_decide_eq_true (by kernel_rfl)) k0 bel lt0) (trodAll_cons_mk (Below.trod laidOut (by kernel_rfl) (of_decide_eq_true (by kernel_rfl)) k1 bel lt1) (trodAll_cons_mk (Below.trod laidOut (by kernel_rfl) (of_decide_eq_true (by kernel_rfl)) k2 bel lt2) trodAll_mk0))), rfl, bel.frame _, fun h => by cases h⟩

theorem over : Rows.logFrontRow.holds Try.pinned (OpenSpec.ofChange Rows.logFrontSpec) :=
  OpenClaim.holds_of_wide 5 Try.f5 rfl rfl rfl rfl rfl rfl rfl ⟨rfl, rfl, rfl, rfl, rfl⟩ rfl rfl rfl rfl rfl (by kernel_rfl) Try.func5 (by kernel_rfl)
    (of_decide_eq_true (by kernel_rfl)) (by unfold Func.isWrapper; first | (rw [if_pos (by decide +kernel)]; kernel_rfl) | (rw [if_neg (by decide +kernel)]; exact ⟨rfl, rfl⟩))
    (fun os started H enc _ => lifted os started H enc)

theorem proved : Rows.LogFrontSaid := over
end Go.Proofs.Ytnkiifodcmfmiaa.lawLogFront
