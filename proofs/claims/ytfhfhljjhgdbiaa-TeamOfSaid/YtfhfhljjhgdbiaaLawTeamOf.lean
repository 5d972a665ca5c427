/- Any processes are a team: those from 1 to 7: for every list of numbers; no condition. -/
import Derived.Test.YtfhfhljjhgdbiaaTeamC
import Derived.Test.YtfhfhljjhgdbiaaTeamQ
import Derived.Test.YtfhfhljjhgdbiaaFrame
namespace Go.Proofs.Ytfhfhljjhgdbiaa.lawTeamOf
open Go.ChangeShapes Go.WideShapes Go.ChangeAt Go.RowKit
set_option linter.unusedVariables false

/-- how many of -1 .. k-2 are in it -/
def cnt (T : Nat) : Nat → Nat
  | 0 => 0
  | k + 1 => if hasT T ((k : Int) - 1) then cnt T k + 1 else cnt T k
theorem cnt_le (T k : Nat) : cnt T k ≤ k := by
  induction k with
  | zero => exact Nat.le_refl _
  | succ k ih => rw [cnt]; split <;> omega
theorem cnt_all : ∀ T, T < 128 → cnt T 11 = lenT T := by decide +kernel
theorem list_rise : ∀ T, T < 128 → ∀ i, i < 6 → i + 1 < (listT T).length → (listT T).getD i 0 < (listT T).getD (i + 1) 0 := by decide +kernel
theorem list_len : ∀ T, T < 128 → (listT T).length = lenT T := by decide +kernel
theorem list_has : ∀ T, T < 128 → ∀ i, i < 7 → i < (listT T).length → hasT T ((listT T).getD i 0) = true := by decide +kernel

/-- found among the first j -/
def fnd (L : List Int) (id : Int) (j : Nat) : Bool := (L.take j).contains id && isB id
theorem fnd_zero (L : List Int) (id : Int) : fnd L id 0 = false := by simp [fnd]
theorem fnd_succ (L : List Int) (id : Int) (j : Nat) (h : j < L.length) : fnd L id (j + 1) = (fnd L id j || (L[j] == id && isB id)) := by
  unfold fnd
  rw [List.take_succ_eq_append_getElem h, List.contains_eq_any_beq, List.contains_eq_any_beq, List.any_append]
  have e : (id == L[j]) = (L[j] == id) := Bool.beq_comm
  simp only [List.any_cons, List.any_nil, Bool.or_false, e]
  cases (L.take j).any fun x => id == x <;> cases L[j] == id <;> cases isB id <;> rfl
theorem fnd_all (L : List Int) (id : Int) : fnd L id L.length = hasT (L.foldl withT 0) id := by
  rw [has_foldl, has_zero, Bool.false_or, fnd, List.take_length]

set_option maxHeartbeats 2000000 in
theorem walk (v : Value) (l : List Int) (w : World) (hr : rdI w v l) (hl : ∀ n ∈ l, I64 n) :
    Calls Try.prog 3 #[v] w fun e w' => e = .returned (.bool true) ∧ Below w.heap.size w w' := by
  obtain ⟨a, cap, rfl⟩ := hr.len
  go_enter Try.func3, Try.ntmps3
  go_wp2_with fail
  refine (b3_any _).mono ?_
  rintro e w1 ⟨rfl, hb1⟩
  have hr1 := hr.grow hb1
  go_wp2_with fail
  refine (cut3_any _ _ _ hr1).mono ?_
  rintro e w2 ⟨v2, rfl, hr2, rfl⟩
  clear hr hr1 hl
  generalize l.take 20 = L at hr2
  obtain ⟨T, hT⟩ : ∃ T, T = L.foldl withT 0 := ⟨_, rfl⟩
  have hT1 : T < 128 := by rw [hT]; exact foldl_lt _ _ (by decide)
  have HA := fun id : Int => fnd_all L id
  rw [← hT] at HA
  have HA := Lib.hid HA
  have HT := Lib.hid hT
  clear hT
  go_wp2_with fail
  refine (of_any _ L _ hr2).mono ?_
  rintro e w2 ⟨rfl, rfl⟩
  rw [← HT.out]
  obtain ⟨a2, cap2, rfl, hm, hM, ha⟩ := hr2
  unfold maxLen at hM
  have ha := Lib.hid ha
  go_wp2
  go_loop [5, 6] (fun n i => ∃ k : Nat, k ≤ 11 ∧ i = .int .i64 ((k : Int) - 1) ∧ n = .int .i64 (cnt T k)) (fun _ i => (10 - intOf i).toNat)
  case atStart => exact ⟨0, by omega, rfl, rfl⟩
  case round =>
    obtain ⟨k, hk, rfl, rfl⟩ := hrel
    by_cases hlt : k < 11
    · have hck := cnt_le T k
      obtain ⟨id, hid⟩ : ∃ id : Int, id = (k : Int) - 1 := ⟨_, rfl⟩
      have HC := Lib.hid (show cnt T (k + 1) = if hasT T id then cnt T k + 1 else cnt T k by rw [hid]; rfl)
      have hid1 : -1 ≤ id := by omega
      have hid2 : id ≤ 9 := by omega
      have HK := Lib.hid (show (((k + 1 : Nat) : Int) - 1) = id + 1 by omega)
      have HI := Lib.hid hid
      rw [← hid]
      clear hid
      go_wp2
      go_loop [7, 8] (fun n i => ∃ j : Nat, j ≤ L.length ∧ i = .int .i64 j ∧ n = .bool (fnd L id j)) (fun _ i => L.length - (intOf i).toNat)
      case atStart => exact ⟨0, by omega, rfl, by rw [fnd_zero]⟩
      case round =>
        obtain ⟨j, hj, rfl, rfl⟩ := hrel
        by_cases hjl : j < L.length
        · obtain ⟨b, off, rfl, hc⟩ := ha.out (by omega)
          have hcj := hc j hjl
          clear hc
          have hs := fnd_succ L id j hjl
          generalize L[j] = x at hcj hs
          have hs := Lib.hid hs
          cases hf : fnd L id j
          · by_cases hx : x = id
            · subst hx
              by_cases h1 : 1 ≤ x
              · by_cases h7 : x ≤ 7
                · go_wp2
                  go_round
                  case rel => exact ⟨j + 1, by omega, by go_num, by rw [hs.out, hf, isB_yes h1 h7]; simp⟩
                  case measure => simp [intOf]; omega
                · go_wp2
                  go_round
                  case rel => exact ⟨j + 1, by omega, by go_num, by rw [hs.out, hf, isB_no (by omega)]; simp⟩
                  case measure => simp [intOf]; omega
              · go_wp2
                go_round
                case rel => exact ⟨j + 1, by omega, by go_num, by rw [hs.out, hf, isB_no (by omega)]; simp⟩
                case measure => simp [intOf]; omega
            · have hx' : (x == id) = false := by simpa using hx
              go_wp2
              go_round
              case rel => exact ⟨j + 1, by omega, by go_num, by rw [hs.out, hf, hx']; simp⟩
              case measure => simp [intOf]; omega
          · go_wp2
            go_round
            case rel => exact ⟨j + 1, by omega, by go_num, by rw [hs.out, hf]; simp⟩
            case measure => simp [intOf]; omega
        · obtain rfl : j = L.length := by omega
          have hA := HA.out id
          rw [hA]
          clear hA
          cases hh : hasT T id
          · go_wp2_with (go_at_call 13; refine (has_any _ _ _ (by omega)).mono ?_; rintro e w' ⟨rfl, rfl⟩)
            go_round
            case rel => exact ⟨k + 1, by omega, by rw [HK.out], by rw [HC.out, hh]; rfl⟩
            case measure => simp [intOf]; omega
          · go_wp2_with (go_at_call 13; refine (has_any _ _ _ (by omega)).mono ?_; rintro e w' ⟨rfl, rfl⟩)
            go_round
            case rel => exact ⟨k + 1, by omega, by rw [HK.out], by rw [HC.out, hh]; go_num⟩
            case measure => simp [intOf]; omega
    · obtain rfl : k = 11 := by omega
      have hll := lenT_le T
      have HR := Lib.hid (list_rise T hT1)
      have HL := Lib.hid (list_len T hT1)
      have HH := Lib.hid (list_has T hT1)
      rw [cnt_all T hT1]
      go_wp2_with fail
      refine (list_any T _ (by omega)).mono ?_
      rintro e w3 ⟨v3, rfl, hv3, hb3⟩
      have hB := hb1.trans (hb3.mono hb1.size)
      rw [Int.toNat_natCast] at hv3
      obtain ⟨a3, cap3, rfl, ha3⟩ := hv3.rd.getD HL.out
      have HA3 := Lib.hid ha3
      clear hv3 hb1 hb3 ha3
      have hm : ((T : Nat) : Int) % 128 = T := by omega
      go_wp2_with (go_at_call 15; refine (len_any _ _).mono ?_; rintro e w' ⟨rfl, rfl⟩)
      go_loopw [10] (fun i wr => ∃ k : Nat, k ≤ lenT T ∧ i = .int .i64 k ∧ wr.heap = w3.heap ∧ Below w.heap.size w wr) (fun i _ => lenT T - (intOf i).toNat)
      case atStart => exact ⟨0, by omega, rfl, rfl, hB⟩
      case round =>
        obtain ⟨k, hk, rfl, hh, hbr⟩ := hrel
        have HH2 := Lib.hid hh
        clear hB hh
        by_cases hlt : k < lenT T
        · obtain ⟨b, off, rfl, hc⟩ := HA3.out (by omega)
          have hc : ∀ j, j < lenT T → wr.cell? ⟨b, off + j, none⟩ = some (.int .i64 ((listT T).getD j 0)) := fun j hj => by rw [← hc j hj]; simp only [World.cell?, HH2.out]
          have hck := hc k hlt
          have hhk := HH.out k (by omega) (by rw [HL.out]; exact hlt)
          match k, hlt, hck, hhk with
          | 0, hlt, hck, hhk =>
            clear hc
            generalize (listT T).getD 0 0 = x at hck hhk
            rw [Nat.add_zero] at hck
            go_wp2
            go_quiet ((go_at_call 13; exact quiet_eq (has_any _ _ _ (by omega))))
            go_wp2
            go_roundw
            case rel => exact ⟨1, by omega, rfl, HH2.out, below_drewN hbr _⟩
            case measure => simp [intOf]; omega
          | k + 1, hlt, hck, hhk =>
            have hcp := hc k (by omega)
            have hri := HR.out k (by omega) (by rw [HL.out]; exact hlt)
            clear hc
            generalize (listT T).getD (k + 1) 0 = x at hck hhk hri
            generalize (listT T).getD k 0 = y at hcp hri
            go_wp2
            go_quiet ((go_at_call 13; exact quiet_eq (has_any _ _ _ (by omega))))
            go_wp2
            go_roundw
            case rel => exact ⟨k + 2, by omega, by go_num, HH2.out, below_drewN hbr _⟩
            case measure => simp [intOf]; omega
        · go_wp2
          go_ret
          exact ⟨rfl, hbr⟩

/-! the row's step, written out by law.py -/
set_option maxRecDepth 100000 in
theorem lifted (os : Os) (started : os.Started) (H : Type) (enc : TypeId × Value → H) :
    ReturnsInHanded {} Try.checked os 3 .any (Rows.teamOfSpec.pre6 enc Try.prog Try.f3 Rows.teamOfRow.domain false) (Rows.teamOfSpec.post enc Try.prog Try.f3 false true false false) := by
  refine returnsInHanded_of_change (C := Try.checked) own started (by kernel_rfl) Try.func3
    (ChangeSpec.witness6 (enc := enc) (C := Try.checked) false ⟨#[], #[.slice none 0 0], []⟩ 8 (by kernel_rfl) (by kernel_rfl) (by kernel_rfl) (by kernel_rfl)) ?_
  intro W base args ds gs before hval0 hW hcnd _
  have hval : ∀ (j : Nat) t v, Try.f3.params[j]? = some t → args[j]? = some v → Value.okWide Try.prog W .any base t v := hval0
  have hW' := hW
  obtain ⟨p, q, hA0, hV, rfl, hfz, hnd⟩ := hW
  have hA : DataW.TrodAll enc Try.prog W 0 (fun _ => true) true Try.f3.params.toList args.toList ds p := hA0
  rw [Try.params3] at hA hval
  obtain ⟨v0, vs0, d0, ds0, p0, q0, hargs, rfl, rfl, h0, r0⟩ := trodAll_cons hA
  obtain ⟨rfl, rfl, rfl⟩ := trodAll_nil r0
  obtain rfl : args = #[v0] := by cases args; simp_all
  obtain ⟨rfl, rfl⟩ := trodVars_none hV
  have k0 := h0
  have lt0 : ∀ x ∈ p0, x.block < W.heap.size := by obtain ⟨m, hm⟩ := k0; exact DataW.trod_lt m _ _ _ hm
  obtain ⟨l0, w0, b0⟩ := rdI_open Try.underlying22 Try.underlying3 (by kernel_rfl) (hval 0 22 v0 rfl rfl) h0
  clear hA0 hval0
  simp only [List.append_nil] at hW'
  refine (walk v0 l0 W w0 b0).mono fun e W' ⟨he, bel⟩ => ?_
  subst he
  exact ⟨_, rfl, _, _, _, [], _, [], hW', trodAll_mk1 (shut_bool Try.underlying4 _), (trodAll_cons_mk (Below.trod laidOut (by kernel_rfl) (of_decide_eq_true (by kernel_rfl)) k0 bel lt0) trodAll_mk0), rfl, bel.frame _, fun h => by cases h⟩

theorem over : Rows.teamOfRow.holds Try.pinned (OpenSpec.ofChange Rows.teamOfSpec) :=
  OpenClaim.holds_of_wide 3 Try.f3 rfl rfl rfl rfl rfl rfl rfl ⟨rfl, rfl, rfl, rfl, rfl⟩ rfl rfl rfl rfl rfl (by kernel_rfl) Try.func3 (by kernel_rfl)
    (of_decide_eq_true (by kernel_rfl)) (by unfold Func.isWrapper; first | (rw [if_pos (by decide +kernel)]; kernel_rfl) | (rw [if_neg (by decide +kernel)]; exact ⟨rfl, rfl⟩))
    (fun os started H enc _ => lifted os started H enc)

theorem proved : Rows.TeamOfSaid := over
end Go.Proofs.Ytfhfhljjhgdbiaa.lawTeamOf
