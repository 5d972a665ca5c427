/- If more than half have the true time, it is within what so many have. -/
import Derived.Test.YtimffflhfaiakaaCrF
import Derived.Test.YtimffflhfaiakaaCrS
import Derived.Test.YtimffflhfaiakaaFrame
namespace Go.Proofs.Ytimffflhfaiakaa.lawCrossTrue
open Go.ChangeShapes Go.WideShapes Go.ChangeAt Go.RowKit
set_option linter.unusedVariables false

set_option maxRecDepth 100000 in
set_option maxHeartbeats 8000000 in
theorem walk (v : Value) (l : List Rg) (t : Int) (w : World) (hr : rdR w v l) (hok : okR l) (ht : I64 t) :
    Calls Try.prog 4 #[v, .int .i64 t] w fun e w' => e = .returned (.bool true) ∧ Below w.heap.size w w' := by
  obtain ⟨ht1, ht2⟩ := ht
  replace hr := Lib.hid hr
  have hB := Lib.hid (Below.refl w.heap.size w)
  go_enter Try.func4, Try.ntmps4
  go_wp2_with fail
  refine (b10_any _).mono ?_
  rintro r w1 ⟨rfl, hb1⟩
  replace hB := Lib.hid (hB.out.trans (hb1.mono hB.out.size))
  replace hr := Lib.hid (hr.out.grow hb1)
  clear hb1
  go_wp2_with fail
  refine (of10_any v l _ hr.out).mono ?_
  rintro r w2 ⟨v2, u, rfl, hr2, hu, hb2⟩
  clear hr
  replace hB := Lib.hid (hB.out.trans (hb2.mono hB.out.size))
  clear hb2
  have hok2 := okR_take hok 12
  have hl12 : (l.take 12).length ≤ 12 := by rw [List.length_take]; omega
  generalize l.take 12 = L at hr2 hok2 hl12 hu
  clear hok
  have hur := Lib.hid hu.rd
  have hrH := Lib.hid hr2
  obtain ⟨aL, cL, rfl, hmL, hML, hxx⟩ := hr2
  unfold maxLen at hML
  clear hu hxx
  obtain ⟨n, hn⟩ : ∃ n : Nat, n = L.length / 2 + 1 := ⟨_, rfl⟩
  have hn1 : 1 ≤ n := by omega
  have hn12 : n ≤ 12 := by omega
  have hdiv : (L.length : Int).tdiv 2 = ((L.length / 2 : Nat) : Int) := by rw [Int.tdiv_eq_ediv_of_nonneg (by omega)]; rfl
  have hS := best_spec L hok2
  have hA := most_spec L hok2 n (by omega)
  obtain ⟨⟨⟨rl, rh⟩, k⟩, hbst⟩ : ∃ x, bestR L = x := ⟨_, rfl⟩
  obtain ⟨⟨⟨al, ah⟩, ok⟩, hma⟩ : ∃ x, mostR L n = x := ⟨_, rfl⟩
  rw [hbst] at hS
  rw [hma] at hA
  dsimp only at hS hA
  obtain ⟨c, hc⟩ : ∃ c, cntR L t = c := ⟨_, rfl⟩
  have hq1 : n ≤ c → ok = true ∧ al ≤ t ∧ t ≤ ah ∧ n ≤ k := fun h => by
    have htop := hS.top t ht2
    rw [hc] at htop
    cases hk : ok with
    | false => have := (hA.no hk).2 t ht2; omega
    | true =>
      have := hA.all hk t ht2 (by omega)
      exact ⟨rfl, this.1, this.2, by omega⟩
  clear hS hA
  replace hq1 := Lib.hid hq1
  replace hbst := Lib.hid hbst
  replace hma := Lib.hid hma
  replace hc := Lib.hid hc
  go_upto_region 6 with (fail)
  have hn' : (L.length : Int) / 2 + 1 = (n : Int) := by omega
  rw [hn']
  clear hdiv hn'
  replace hn := Lib.hid hn
  go_wp2_with fail
  refine (rCount_any _ L t _ hur.out).mono ?_
  rintro r w3 ⟨rfl, rfl⟩
  rw [hc.out]
  by_cases hlt : c < n
  · have hlt' : (c : Int) < (n : Int) := by omega
    go_wp2
    go_ret
    exact ⟨rfl, hB.out⟩
  have hlt' : ¬ (c : Int) < (n : Int) := by omega
  obtain ⟨rfl, p1, p2, p3⟩ := hq1.out (by omega)
  have p3' : (k : Int) ≥ (n : Int) := by omega
  go_wp2_with fail
  refine (xMost_any _ L n _ hrH.out hok2 (by omega) ⟨by omega, by omega⟩).mono ?_
  rintro r w4 ⟨rfl, hb4⟩
  rw [hma.out]
  replace hB := Lib.hid (hB.out.trans (hb4.mono hB.out.size))
  replace hrH := Lib.hid (hrH.out.grow hb4)
  replace hur := Lib.hid (hur.out.grow hb4)
  clear hb4
  obtain ⟨wa1, hwa1⟩ : ∃ W, W = w4.alloc (.cells #[.int .i64 al, .int .i64 ah] 28) := ⟨_, rfl⟩
  have hba : Below w4.heap.size w4 wa1 := hwa1 ▸ (Below.refl _ _).alloc (Nat.le_refl _) _
  have hx1 : wa1.heap[w4.heap.size]? = some (.cells #[.int .i64 al, .int .i64 ah] 28 (0, 0)) := hwa1 ▸ at_new _ _
  obtain ⟨n1, hn1⟩ : ∃ n, n = w4.heap.size := ⟨_, rfl⟩
  rw [← hn1] at hx1
  replace hx1 := Lib.hid hx1
  replace hB := Lib.hid (hB.out.trans (hba.mono hB.out.size))
  replace hrH := Lib.hid (hrH.out.grow hba)
  replace hur := Lib.hid (hur.out.grow hba)
  clear hba
  go_upto_region 9 with (fail)
  rw [← hwa1, ← hn1]
  clear hwa1
  replace hn1 := Lib.hid hn1
  go_wp2_with fail
  refine (xBest_any _ L _ hrH.out hok2 (by omega)).mono ?_
  rintro r w5 ⟨rfl, hb5⟩
  rw [hbst.out]
  replace hB := Lib.hid (hB.out.trans (hb5.mono hB.out.size))
  replace hrH := Lib.hid (hrH.out.grow hb5)
  replace hur := Lib.hid (hur.out.grow hb5)
  replace hx1 := Lib.hid (at_below hx1.out hb5)
  clear hb5
  obtain ⟨wa2, hwa2⟩ : ∃ W, W = w5.alloc (.cells #[.int .i64 rl, .int .i64 rh] 28) := ⟨_, rfl⟩
  have hba : Below w5.heap.size w5 wa2 := hwa2 ▸ (Below.refl _ _).alloc (Nat.le_refl _) _
  have hx2 : wa2.heap[w5.heap.size]? = some (.cells #[.int .i64 rl, .int .i64 rh] 28 (0, 0)) := hwa2 ▸ at_new _ _
  obtain ⟨n2, hn2⟩ : ∃ n, n = w5.heap.size := ⟨_, rfl⟩
  rw [← hn2] at hx2
  replace hx2 := Lib.hid hx2
  replace hB := Lib.hid (hB.out.trans (hba.mono hB.out.size))
  replace hrH := Lib.hid (hrH.out.grow hba)
  replace hur := Lib.hid (hur.out.grow hba)
  replace hx1 := Lib.hid (at_below hx1.out hba)
  clear hba
  go_upto_region 10 with (fail)
  rw [← hwa2, ← hn2]
  clear hwa2
  replace hn2 := Lib.hid hn2
  have f0 := cell_at hx1.out 0
  have f1 := cell_at hx1.out 1
  simp only [List.getElem?_toArray, List.getElem?_cons_zero, List.getElem?_cons_succ] at f0 f1
  go_wp2
  go_ret
  exact ⟨rfl, hB.out⟩

/-! the row's step, written out by law.py -/
set_option maxRecDepth 100000 in
theorem lifted (os : Os) (started : os.Started) (H : Type) (enc : TypeId × Value → H) :
    ReturnsInHanded {} Try.checked os 4 .any (Rows.crossTrueSpec.pre6 enc Try.prog Try.f4 Rows.crossTrueRow.domain false) (Rows.crossTrueSpec.post enc Try.prog Try.f4 false true false false) := by
  refine returnsInHanded_of_change (C := Try.checked) own started (by kernel_rfl) Try.func4
    (ChangeSpec.witness6 (enc := enc) (C := Try.checked) false ⟨#[], #[.slice none 0 0, .int .i64 0], []⟩ 8 (by kernel_rfl) (by kernel_rfl) (by kernel_rfl) (by kernel_rfl)) ?_
  intro W base args ds gs before hval0 hW hcnd _
  have hval : ∀ (j : Nat) t v, Try.f4.params[j]? = some t → args[j]? = some v → Value.okWide Try.prog W .any base t v := hval0
  have hW' := hW
  obtain ⟨p, q, hA0, hV, rfl, hfz, hnd⟩ := hW
  have hA : DataW.TrodAll enc Try.prog W 0 (fun _ => true) true Try.f4.params.toList args.toList ds p := hA0
  rw [Try.params4] at hA hval
  obtain ⟨v0, vs0, d0, ds0, p0, q0, hargs, rfl, rfl, h0, r0⟩ := trodAll_cons hA
  obtain ⟨v1, vs1, d1, ds1, p1, q1, rfl, rfl, rfl, h1, r1⟩ := trodAll_cons r0
  obtain ⟨rfl, rfl, rfl⟩ := trodAll_nil r1
  obtain rfl : args = #[v0, v1] := by cases args; simp_all
  obtain ⟨rfl, rfl⟩ := trodVars_none hV
  have k0 := h0
  have lt0 : ∀ x ∈ p0, x.block < W.heap.size := by obtain ⟨m, hm⟩ := k0; exact DataW.trod_lt m _ _ _ hm
  have k1 := h1
  have lt1 : ∀ x ∈ p1, x.block < W.heap.size := by obtain ⟨m, hm⟩ := k1; exact DataW.trod_lt m _ _ _ hm
  obtain ⟨l0, w0, b0⟩ := slrange_open (hval 0 22 v0 rfl rfl) h0
  obtain ⟨a1, rfl, rfl, rfl, w1⟩ := open_int Try.underlying2 (hval 1 2 v1 rfl rfl) h1
  have w1 := bounds_i64 w1
  clear hA0 hval0
  simp only [List.append_nil] at hW'
  refine (walk v0 l0 a1 W w0 b0 w1).mono fun e W' ⟨he, bel⟩ => ?_
  subst he
  exact ⟨_, rfl, _, _, _, [], _, [], hW', trodAll_mk1 (shut_bool Try.underlying4 _), (trodAll_cons_mk (Below.trod laidOut (by kernel_rfl) (of_decide_eq_true (by kernel_rfl)) k0 bel lt0) (trodAll_cons_mk (Below.trod laidOut (by kernel_rfl) (of_decide_eq_true (by kernel_rfl)) k1 bel lt1) trodAll_mk0)), rfl, bel.frame _, fun h => by cases h⟩

theorem over : Rows.crossTrueRow.holds Try.pinned (OpenSpec.ofChange Rows.crossTrueSpec) :=
  OpenClaim.holds_of_wide 4 Try.f4 rfl rfl rfl rfl rfl rfl rfl ⟨rfl, rfl, rfl, rfl, rfl⟩ rfl rfl rfl rfl rfl (by kernel_rfl) Try.func4 (by kernel_rfl)
    (of_decide_eq_true (by kernel_rfl)) (by unfold Func.isWrapper; first | (rw [if_pos (by decide +kernel)]; kernel_rfl) | (rw [if_neg (by decide +kernel)]; exact ⟨rfl, rfl⟩))
    (fun os started H enc _ => lifted os started H enc)

theorem proved : Rows.CrossTrueSaid := over
end Go.Proofs.Ytimffflhfaiakaa.lawCrossTrue
