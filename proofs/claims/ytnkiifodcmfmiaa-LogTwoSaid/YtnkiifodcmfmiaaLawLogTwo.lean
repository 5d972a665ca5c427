/- Two logs that are put together from one list at any places are one the other's beginning: for all lists and places; no condition. -/
import Derived.Test.YtnkiifodcmfmiaaBegun
import Derived.Test.YtnkiifodcmfmiaaPutA
import Derived.Test.YtnkiifodcmfmiaaPutQ
import Derived.Test.YtnkiifodcmfmiaaEntO
namespace Go.Proofs.Ytnkiifodcmfmiaa.lawLogTwo
open Go.ChangeShapes Go.WideShapes Go.ChangeAt Go.RowKit
set_option linter.unusedVariables false

theorem putTo_congr {l : List Ent} {K : Nat} {es es' : List Ent} : ∀ i, (∀ j, j < i → es.getD j entZ = es'.getD j entZ) → putTo l K es i = putTo l K es' i
  | 0, _ => rfl
  | i + 1, h => by rw [putTo, putTo, putTo_congr i (fun j hj => h j (by omega)), h i (by omega)]
theorem put_part {W : List Ent} (h : good W) {n K m : Nat} (hn : n ≤ W.length) : putE (W.take n) (K : Int) ((W.drop K).take m) = if K ≤ n then some (W.take (max n (K + ((W.drop K).take m).length))) else none := by
  have hl : (W.take n).length = n := by simp; omega
  by_cases hK : K ≤ n
  · rw [if_pos hK, putE, if_neg (by rw [hl]; omega), Int.toNat_natCast]
    rw [putTo_congr (es' := W.drop K) _ (fun j hj => by
      rw [List.getD_eq_getElem?_getD, List.getD_eq_getElem?_getD, List.getElem?_take, if_pos (by simp at hj; omega)])]
    exact putTo_back h hK hn _ (by simp; omega)
  · rw [if_neg hK, putE, if_pos (by rw [hl]; omega)]
theorem front_le {W : List Ent} {a b : Nat} (h : a ≤ b) (hb : b ≤ W.length) : frontE (W.take a) (W.take b) = true := by
  unfold frontE
  have e : (W.take b).take (W.take a).length = W.take a := by
    rw [List.take_take]; congr 1; simp; omega
  rw [e, eqAll_refl]
  simp; omega

/-- two logs apart, each with a beginning of one list -/
def Duo (w wr : World) (W : List Ent) (p np q nq : Nat) : Prop :=
  ∃ F G : Nat → Prop, (∀ k, F k → w.heap.size ≤ k ∧ k < wr.heap.size) ∧ (∀ k, G k → w.heap.size ≤ k ∧ k < wr.heap.size) ∧ (∀ k, F k → ¬ G k) ∧ lgO wr F p (W.take np) ∧ lgO wr G q (W.take nq) ∧ np ≤ W.length ∧ nq ≤ W.length
def DuoR (w wr : World) (W : List Ent) (a b : Nat) : Prop := ∃ na nb, Duo w wr W a na b nb
theorem Duo.swap {w wr : World} {W : List Ent} {p np q nq : Nat} (h : Duo w wr W p np q nq) : Duo w wr W q nq p np := by
  obtain ⟨F, G, h1, h2, h3, h4, h5, h6, h7⟩ := h
  exact ⟨G, F, h2, h1, fun k g f => h3 k f g, h5, h4, h7, h6⟩
theorem duo_step {w wr w2 : World} {W : List Ent} {p q nq n' : Nat} {F G : Nat → Prop} (h1 : ∀ k, F k → w.heap.size ≤ k ∧ k < wr.heap.size) (h2 : ∀ k, G k → w.heap.size ≤ k ∧ k < wr.heap.size) (h3 : ∀ k, F k → ¬ G k)
    (hq : lgO wr G q (W.take nq)) (hnq : nq ≤ W.length) (hw : w.heap.size ≤ wr.heap.size)
    (hl : lgO w2 (Gr F wr w2) p (W.take n')) (hc : Chg F wr w2) (hn : n' ≤ W.length) : Duo w w2 W p n' q nq ∧ Below w.heap.size wr w2 := by
  have hs := hc.size
  refine ⟨⟨Gr F wr w2, G, fun k hk => ?_, fun k hk => ⟨(h2 k hk).1, by have := (h2 k hk).2; omega⟩, fun k hk g => ?_, hl, hq.chg hc (fun k g f => h3 k f g), hn, hnq⟩, hc.below hw fun k hk => (h1 k hk).1⟩
  · rcases hk with f | f
    · have := h1 k f; exact ⟨this.1, by omega⟩
    · exact ⟨by omega, f.2⟩
  · rcases hk with f | f
    · exact h3 k f g
    · have := (h2 k g).2; omega
def Pick (w wr : World) (W : List Ent) (ba bb : Nat) (s : Value) : Prop :=
  ∃ p np q nq, s = .pointer (some ⟨p, 0, none⟩) ∧ Duo w wr W p np q nq ∧ ∀ wx n', Duo w wx W p n' q nq → DuoR w wx W ba bb

theorem front_gt {W : List Ent} {a b : Nat} (h : b < a) (ha : a ≤ W.length) : frontE (W.take a) (W.take b) = false := by
  unfold frontE
  have : decide ((W.take a).length ≤ (W.take b).length) = false := by simp; omega
  rw [this, Bool.false_and]
theorem tmod_bd (z : Int) (n : Nat) : -(n : Int) ≤ z.tmod ((n : Int) + 1) ∧ z.tmod ((n : Int) + 1) ≤ n := by
  have h1 := Int.tmod_lt_of_pos z (b := (n : Int) + 1) (by omega)
  have h2 := Int.lt_tmod_of_pos z (b := (n : Int) + 1) (by omega)
  omega

set_option maxRecDepth 100000 in
set_option maxHeartbeats 4000000 in
theorem walk (v : Value) (l : List Ent) (v2 : Value) (cs : List Int) (w : World) (hr : rdE w v l) (hd : ∀ e ∈ l, e.data.size ≤ 9223372036854775807) (hr2 : rdI w v2 cs) (hI : ∀ n ∈ cs, I64 n) :
    Calls Try.prog 10 #[v, v2] w fun e w' => e = .returned (.bool true) ∧ Below w.heap.size w w' := by
  replace hr := Lib.hid hr
  replace hd := Lib.hid hd
  have hr3 := Lib.hid hr2
  obtain ⟨a2, c2, rfl, hm2, hM2, ha2⟩ := hr2
  unfold maxLen at hM2
  replace ha2 := Lib.hid ha2
  replace hI := Lib.hid hI
  go_enter Try.func10, Try.ntmps10
  go_wp2_with fail
  refine (b13_any _).mono ?_
  rintro e w1 ⟨rfl, hb1⟩
  go_wp2_with fail
  refine (entries12_any _ l 15 _ (hr.out.grow hb1) hd.out (by omega) (by omega)).mono ?_
  rintro e w2 ⟨x1, rfl, ho1, hb2⟩
  have hB2 := hb1.trans (hb2.mono hb1.size)
  clear hb1 hb2 hd hr
  generalize mapCut l _ = A at ho1
  have R1 := Lib.hid ho1.rd
  clear ho1
  go_wp2_with fail
  refine (r12Log_any _ A _ R1.out).mono ?_
  rintro r w3 ⟨va, rfl, ho3, hb3⟩
  have hB3 := Lib.hid (hB2.trans (hb3.mono hB2.size))
  have hgo := Lib.hid (good_logE A)
  have h60 := logE_len A
  generalize logE A = W at ho3 hgo h60
  have R := Lib.hid ho3.rd
  clear hB2 hb3 R1
  replace ho3 := Lib.hid ho3
  obtain ⟨aW, cW, rfl, hmW, hMW, haW⟩ := R.out
  unfold maxLen at hMW
  replace haW := Lib.hid haW
  have hnl : logE ([] : List Ent) = W.take 0 := rfl
  go_wp2_with fail
  refine (logNew_any _ [] _ (rdE_nil _ none 0 (Nat.zero_le _))).mono ?_
  rintro r w4 ⟨ba, rfl, hba, hla, hb4⟩
  rw [hnl] at hla
  go_wp2_with fail
  refine (logNew_any _ [] _ (rdE_nil _ none 0 (Nat.zero_le _))).mono ?_
  rintro r w5 ⟨bb, rfl, hbb, hlb, hb5⟩
  rw [hnl] at hlb
  have hD5 : DuoR w3 w5 W ba bb := ⟨0, 0, News w3 w4, News w4 w5, fun k hk => ⟨hk.1, Nat.lt_of_lt_of_le hk.2 hb5.size⟩, fun k hk => ⟨Nat.le_trans hb4.size hk.1, hk.2⟩, fun k f g => by have := f.2; have := g.1; omega, hla.grow hb5, hlb, Nat.zero_le _, Nat.zero_le _⟩
  have hB5 := hb4.trans (hb5.mono hb4.size)
  clear hnl hba hbb hla hlb hb4 hb5
  replace hD5 := Lib.hid hD5
  go_wp2
  go_loopw [9] (fun i wr => ∃ (k : Nat), k ≤ cs.length ∧ k ≤ 12 ∧ i = .int .i64 k ∧ DuoR w3 wr W ba bb ∧ Below w3.heap.size w3 wr) (fun i _ => cs.length - (intOf i).toNat)
  case atStart => exact ⟨0, Nat.zero_le _, Nat.zero_le _, rfl, hD5.out, hB5⟩
  case round =>
    obtain ⟨k, hk, hk12, rfl, hD, hbel⟩ := hrel
    have hsz := hbel.size
    clear hD5 hB5
    by_cases hlt : k < cs.length
    · by_cases hlt12 : k < 12
      · obtain ⟨bl, off, rfl, hc⟩ := ha2.out (by omega)
        have hci := hc k hlt
        obtain ⟨z, hz⟩ : ∃ z, z = cs[k] := ⟨_, rfl⟩
        have hzI : I64 z := hI.out z (by rw [hz]; exact List.getElem_mem hlt)
        have hcw := (hB3.out.trans (hbel.mono hB3.out.size)).cell (p := ⟨bl, off + k, none⟩) (cell_lt hci)
        rw [hci, ← hz] at hcw
        clear hz hci hc
        obtain ⟨hz0, hz1⟩ := hzI
        have ht := tmod_bd z W.length
        have hu := (z.tmod ((W.length : Int) + 1) + (W.length : Int) + 1).emod_nonneg (b := (W.length : Int) + 1) (by omega)
        have hu2 := (z.tmod ((W.length : Int) + 1) + (W.length : Int) + 1).emod_lt_of_pos (b := (W.length : Int) + 1) (by omega)
        obtain ⟨ht0, ht1⟩ := ht
        have hcs := Lib.hid (List.length_take_le 0 W)
        replace hD := Lib.hid hD
        replace hbel := Lib.hid hbel
        go_upto_region 9 with (fail)
        go_cut [10] (fun s wx => ∃ K : Nat, K ≤ W.length ∧ s = .int .i64 (K : Int) ∧ wr = wx)
        case first =>
          go_wp2_with fail
          go_meet
          exact ⟨((z.tmod ((W.length : Int) + 1) + (W.length : Int) + 1) % ((W.length : Int) + 1)).toNat, by omega, by rw [Int.toNat_of_nonneg hu], rfl⟩
        case rest =>
          obtain ⟨K, hK, rfl, rfl⟩ := hcut
          clear ht0 ht1 hu hu2 hz0 hz1 hcw hcs
          go_upto_if 52 with (fail)
          go_cut [11] (fun s wx => Pick w3 wr W ba bb s ∧ wr = wx)
          case first =>
            obtain ⟨na, nb, hduo⟩ := hD.out
            replace hduo := Lib.hid hduo
            by_cases hpar : k % 2 = 1
            · have d : ((k : Int) % 2 == 1) = true := by simp; omega
              go_wp2_with fail
              go_meet
              exact ⟨⟨bb, nb, ba, na, rfl, hduo.out.swap, fun wx n' h => ⟨na, n', h.swap⟩⟩, rfl⟩
            · have d : ((k : Int) % 2 == 1) = false := by simp; omega
              go_wp2_with fail
              go_meet
              exact ⟨⟨ba, na, bb, nb, rfl, hduo.out, fun wx n' h => ⟨n', nb, h⟩⟩, rfl⟩
          case rest =>
            obtain ⟨⟨p, np, q, nq, rfl, hduo, hback⟩, rfl⟩ := hcut
            obtain ⟨F, G, h1, h2, h3, hp, hq, hnp, hnq⟩ := hduo
            have hNl : Hid ((W.take np).length = np) := Lib.hid (by simp; omega)
            replace hp := Lib.hid hp
            replace hq := Lib.hid hq
            replace h1 := Lib.hid h1
            replace h2 := Lib.hid h2
            replace h3 := Lib.hid h3
            replace hback := Lib.hid hback
            go_wp2_with fail
            refine (logLen_any p (W.take np) _ hp.out.rd).mono ?_
            rintro r w6 ⟨rfl, rfl⟩
            rw [hNl.out]
            obtain ⟨qb, hqb⟩ : ∃ qb, decide (K ≤ np) = qb := ⟨_, rfl⟩
            obtain ⟨hi, hhi⟩ : ∃ hi, hi = min W.length (K + 3) := ⟨_, rfl⟩
            have hhi1 : K ≤ hi := by omega
            have hhi2 : hi ≤ W.length := by omega
            have hi3 : W.length ≤ K + 3 → hi = W.length := fun _ => by omega
            have hi4 : ¬ W.length ≤ K + 3 → hi = K + 3 := fun _ => by omega
            clear hhi
            have HP : ∀ X, rdE wr X ((W.drop K).take (hi - K)) → Calls Try.prog 18 #[.pointer (some ⟨p, 0, none⟩), .int .i64 (K : Int), X] wr fun r w' =>
                r = .returned (.bool qb) ∧ DuoR w3 w' W ba bb ∧ Below w3.heap.size w3 w' := by
              intro X hX
              refine (logPut_any p X (W.take np) _ K F wr hp.out hX (by rw [hNl.out]; omega)).mono ?_
              rintro r w7 ⟨rfl, hl, hc⟩
              rw [put_part hgo.out hnp] at hl ⊢
              rw [← hqb]
              by_cases hKn : K ≤ np
              · rw [if_pos hKn] at hl ⊢
                obtain ⟨g1, g2⟩ := duo_step h1.out h2.out h3.out hq.out hnq hbel.out.size hl hc (by simp; omega)
                exact ⟨ret_bool (by simp [hKn]), hback.out _ _ g1, hbel.out.trans g2⟩
              · rw [if_neg hKn] at hl ⊢
                obtain ⟨g1, g2⟩ := duo_step h1.out h2.out h3.out hq.out hnq hbel.out.size hl hc hnp
                exact ⟨ret_bool (by simp [hKn]), hback.out _ _ g1, hbel.out.trans g2⟩
            replace HP := Lib.hid HP
            have hqb' : decide ((K : Int) ≤ (np : Int)) = qb := by rw [← hqb]; congr 1; simp
            replace hqb := hqb
            have RR := Lib.hid (R.out.grow hbel.out)
            clear h1 h2 h3 hp hq hback hNl hnq
            have hKc : K ≤ cW := by omega
            have hhc : hi ≤ cW := by omega
            go_upto_region 14 with (fail)
            go_cut [70] (fun s wx => s = .bool false ∧ DuoR w3 wx W ba bb ∧ Below w3.heap.size w3 wx)
            case first =>
              by_cases hlK : K < W.length
              · obtain ⟨_, _, he, _, _, ha⟩ := RR.out
                injection he with he1 he2 he3
                subst he1 he3
                obtain ⟨bw, ow, rfl, _⟩ := ha (by omega)
                have hX := rdE_take (rdE_drop RR.out K hlK) (hi - K) (by simp; omega)
                have HC : ∀ n c, n = hi - K → c = cW - K → Calls Try.prog 18 #[.pointer (some ⟨p, 0, none⟩), .int .i64 (K : Int), .slice (some ⟨bw, ow + K * 7, none⟩) n c] wr fun r w' =>
                    r = .returned (.bool qb) ∧ DuoR w3 w' W ba bb ∧ Below w3.heap.size w3 w' := fun n c hn hc => by rw [hn, hc]; exact HP.out _ hX
                replace HC := Lib.hid HC
                have hne : ¬ cW = K := by omega
                clear ha hX
                by_cases hm3 : W.length ≤ K + 3
                · obtain rfl := hi3 hm3
                  have dm : ((W.length : Int) ≤ (K : Int) + 3) := by omega
                  clear hi3 hi4
                  go_wp2_with fail
                  refine (HC.out _ _ (by omega) (by omega)).mono ?_
                  rintro r w7 ⟨rfl, g1, g2⟩
                  go_wp2_with fail
                  go_meet
                  exact ⟨by simp, g1, g2⟩
                · obtain rfl := hi4 hm3
                  have dm : ¬ ((W.length : Int) ≤ (K : Int) + 3) := by omega
                  clear hi3 hi4
                  go_wp2_with fail
                  refine (HC.out _ _ (by omega) (by omega)).mono ?_
                  rintro r w7 ⟨rfl, g1, g2⟩
                  go_wp2_with fail
                  go_meet
                  exact ⟨by simp, g1, g2⟩
              · obtain rfl : K = W.length := by omega
                have HE : ∀ X c n m, n = (W.length : Int) → m = 0 → c ≤ 9223372036854775807 → Calls Try.prog 18 #[.pointer (some ⟨p, 0, none⟩), .int .i64 n, .slice X m c] wr fun r w' =>
                    r = .returned (.bool qb) ∧ DuoR w3 w' W ba bb ∧ Below w3.heap.size w3 w' := fun X c n m hn hm hc => by
                  rw [hn, hm]
                  refine HP.out _ ?_
                  rw [List.drop_length, List.take_nil]
                  exact rdE_nil _ _ _ (by unfold maxLen; omega)
                replace HE := Lib.hid HE
                obtain rfl := hi3 (by omega)
                have dm : ((W.length : Int) ≤ (W.length : Int) + 3) := by omega
                clear hi3 hi4
                rcases ho3.out.2 with ⟨hnil, hl0⟩ | ⟨g, cp, cur, hvg, _⟩
                · injection hnil with q1 q2 q3
                  subst q1 q3
                  obtain rfl : W = [] := List.length_eq_zero_iff.1 q2
                  clear q2
                  go_wp2_with fail
                  refine (HE.out _ _ _ _ (by simp) (by simp) (by simp)).mono ?_
                  rintro r w7 ⟨rfl, g1, g2⟩
                  go_wp2_with fail
                  go_meet
                  exact ⟨by clear HE HP RR ho3 hgo hD hbel hB3 R haW hr3 ha2 hI; cases qb <;> simp at hqb ⊢, g1, g2⟩
                · injection hvg with q1 q2 q3
                  subst q1 q3
                  by_cases hne : cW = W.length
                  · subst hne
                    go_wp2_with fail
                    refine (HE.out _ _ _ _ (by omega) (by omega) (by omega)).mono ?_
                    rintro r w7 ⟨rfl, g1, g2⟩
                    go_wp2_with fail
                    go_meet
                    exact ⟨by simp, g1, g2⟩
                  · go_wp2_with fail
                    refine (HE.out _ _ _ _ (by omega) (by omega) (by omega)).mono ?_
                    rintro r w7 ⟨rfl, g1, g2⟩
                    go_wp2_with fail
                    go_meet
                    exact ⟨by simp, g1, g2⟩
            case rest =>
              obtain ⟨rfl, g1, g2⟩ := hcut
              replace g1 := Lib.hid g1
              go_wp2
              go_roundw
              case rel => exact ⟨k + 1, by omega, by omega, by go_num, g1.out, g2⟩
              case measure => simp [intOf]; omega
      · obtain ⟨na, nb, F, G, _, _, _, hla, hlb, hna, hnb⟩ := hD
        have hla := Lib.hid hla
        have hlb := Lib.hid hlb
        have hB := Lib.hid (hB3.out.trans (hbel.mono hB3.out.size))
        have hfa : Hid (fromE (W.take na) 0 = W.take na) := Lib.hid (by simp [fromE])
        have hfb : Hid (fromE (W.take nb) 0 = W.take nb) := Lib.hid (by simp [fromE])
        have l60 : ∀ n, (W.take n).length ≤ 1000000 := fun n => by simp; omega
        replace l60 := Lib.hid l60
        clear hbel
        go_wp2_with fail
        refine (logFrom_any ba (W.take na) 0 _ hla.out.rd (l60.out _)).mono ?_
        rintro r w6 ⟨xa, rfl, ho6, hb6⟩
        rw [hfa.out] at ho6
        have hlb6 := Lib.hid (hlb.out.grow hb6)
        have hB6 := Lib.hid (hB.out.trans (hb6.mono hB.out.size))
        have Rx := Lib.hid ho6.rd
        clear hb6 ho6
        go_wp2_with fail
        refine (logFrom_any bb (W.take nb) 0 _ hlb6.out.rd (l60.out _)).mono ?_
        rintro r w7 ⟨xb, rfl, ho7, hb7⟩
        rw [hfb.out] at ho7
        have Rx7 := Lib.hid (Rx.out.grow hb7)
        have hB7 := Lib.hid (hB6.out.trans (hb7.mono hB6.out.size))
        have Ry := Lib.hid ho7.rd
        clear hb7 ho7
        by_cases hab : na ≤ nb
        · have hf := Lib.hid (front_le hab hnb)
          go_wp2_with fail
          refine (logFront_any _ _ _ _ _ Rx7.out Ry.out).mono ?_
          rintro r w8 ⟨rfl, hb8⟩
          rw [hf.out]
          have hB8 := hB7.out.trans (hb8.mono hB7.out.size)
          go_wp2
          go_ret
          exact ⟨rfl, hB8⟩
        · have hf := Lib.hid (front_gt (show nb < na by omega) hna)
          have hf2 := Lib.hid (front_le (W := W) (show nb ≤ na by omega) hna)
          go_wp2_with fail
          refine (logFront_any _ _ _ _ _ Rx7.out Ry.out).mono ?_
          rintro r w8 ⟨rfl, hb8⟩
          rw [hf.out]
          have hB8 := Lib.hid (hB7.out.trans (hb8.mono hB7.out.size))
          have Rx8 := Lib.hid (Rx7.out.grow hb8)
          have Ry8 := Lib.hid (Ry.out.grow hb8)
          clear hb8
          go_wp2_with fail
          refine (logFront_any _ _ _ _ _ Ry8.out Rx8.out).mono ?_
          rintro r w9 ⟨rfl, hb9⟩
          rw [hf2.out]
          have hB9 := hB8.out.trans (hb9.mono hB8.out.size)
          go_wp2
          go_ret
          exact ⟨rfl, hB9⟩
    · obtain ⟨na, nb, F, G, _, _, _, hla, hlb, hna, hnb⟩ := hD
      have hla := Lib.hid hla
      have hlb := Lib.hid hlb
      have hB := Lib.hid (hB3.out.trans (hbel.mono hB3.out.size))
      have hfa : Hid (fromE (W.take na) 0 = W.take na) := Lib.hid (by simp [fromE])
      have hfb : Hid (fromE (W.take nb) 0 = W.take nb) := Lib.hid (by simp [fromE])
      have l60 : ∀ n, (W.take n).length ≤ 1000000 := fun n => by simp; omega
      replace l60 := Lib.hid l60
      clear hbel
      go_wp2_with fail
      refine (logFrom_any ba (W.take na) 0 _ hla.out.rd (l60.out _)).mono ?_
      rintro r w6 ⟨xa, rfl, ho6, hb6⟩
      rw [hfa.out] at ho6
      have hlb6 := Lib.hid (hlb.out.grow hb6)
      have hB6 := Lib.hid (hB.out.trans (hb6.mono hB.out.size))
      have Rx := Lib.hid ho6.rd
      clear hb6 ho6
      go_wp2_with fail
      refine (logFrom_any bb (W.take nb) 0 _ hlb6.out.rd (l60.out _)).mono ?_
      rintro r w7 ⟨xb, rfl, ho7, hb7⟩
      rw [hfb.out] at ho7
      have Rx7 := Lib.hid (Rx.out.grow hb7)
      have hB7 := Lib.hid (hB6.out.trans (hb7.mono hB6.out.size))
      have Ry := Lib.hid ho7.rd
      clear hb7 ho7
      by_cases hab : na ≤ nb
      · have hf := Lib.hid (front_le hab hnb)
        go_wp2_with fail
        refine (logFront_any _ _ _ _ _ Rx7.out Ry.out).mono ?_
        rintro r w8 ⟨rfl, hb8⟩
        rw [hf.out]
        have hB8 := hB7.out.trans (hb8.mono hB7.out.size)
        go_wp2
        go_ret
        exact ⟨rfl, hB8⟩
      · have hf := Lib.hid (front_gt (show nb < na by omega) hna)
        have hf2 := Lib.hid (front_le (W := W) (show nb ≤ na by omega) hna)
        go_wp2_with fail
        refine (logFront_any _ _ _ _ _ Rx7.out Ry.out).mono ?_
        rintro r w8 ⟨rfl, hb8⟩
        rw [hf.out]
        have hB8 := Lib.hid (hB7.out.trans (hb8.mono hB7.out.size))
        have Rx8 := Lib.hid (Rx7.out.grow hb8)
        have Ry8 := Lib.hid (Ry.out.grow hb8)
        clear hb8
        go_wp2_with fail
        refine (logFront_any _ _ _ _ _ Ry8.out Rx8.out).mono ?_
        rintro r w9 ⟨rfl, hb9⟩
        rw [hf2.out]
        have hB9 := hB8.out.trans (hb9.mono hB8.out.size)
        go_wp2
        go_ret
        exact ⟨rfl, hB9⟩

/-! the row's step, written out by law.py -/
set_option maxRecDepth 100000 in
theorem lifted (os : Os) (started : os.Started) (H : Type) (enc : TypeId × Value → H) :
    ReturnsInHanded {} Try.checked os 10 .any (Rows.logTwoSpec.pre6 enc Try.prog Try.f10 Rows.logTwoRow.domain false) (Rows.logTwoSpec.post enc Try.prog Try.f10 false true false false) := by
  refine returnsInHanded_of_change (C := Try.checked) own started (by kernel_rfl) Try.func10
    (ChangeSpec.witness6 (enc := enc) (C := Try.checked) false ⟨#[], #[.slice none 0 0, .slice none 0 0], []⟩ 8 (by kernel_rfl) (by kernel_rfl) (by kernel_rfl) (by kernel_rfl)) ?_
  intro W base args ds gs before hval0 hW hcnd _
  have hval : ∀ (j : Nat) t v, Try.f10.params[j]? = some t → args[j]? = some v → Value.okWide Try.prog W .any base t v := hval0
  have hW' := hW
  obtain ⟨p, q, hA0, hV, rfl, hfz, hnd⟩ := hW
  have hA : DataW.TrodAll enc Try.prog W 0 (fun _ => true) true Try.f10.params.toList args.toList ds p := hA0
  rw [Try.params10] at hA hval
  obtain ⟨v0, vs0, d0, ds0, p0, q0, hargs, rfl, rfl, h0, r0⟩ := trodAll_cons hA
  obtain ⟨v1, vs1, d1, ds1, p1, q1, rfl, rfl, rfl, h1, r1⟩ := trodAll_cons r0
  obtain ⟨rfl, rfl, rfl⟩ := trodAll_nil r1
  obtain rfl : args = #[v0, v1] := by cases args; simp_all
  obtain ⟨rfl, rfl⟩ := trodVars_none hV
  have k0 := h0
  have lt0 : ∀ x ∈ p0, x.block < W.heap.size := by obtain ⟨m, hm⟩ := k0; exact DataW.trod_lt m _ _ _ hm
  have k1 := h1
  have lt1 : ∀ x ∈ p1, x.block < W.heap.size := by obtain ⟨m, hm⟩ := k1; exact DataW.trod_lt m _ _ _ hm
  obtain ⟨l0, w0, b0⟩ := slentry_open (hval 0 22 v0 rfl rfl) h0
  obtain ⟨l1, w1, b1⟩ := rdI_open Try.underlying50 Try.underlying3 (by kernel_rfl) (hval 1 50 v1 rfl rfl) h1
  clear hA0 hval0
  simp only [List.append_nil] at hW'
  refine (walk v0 l0 v1 l1 W w0 b0 w1 b1).mono fun e W' ⟨he, bel⟩ => ?_
  subst he
  exact ⟨_, rfl, _, _, _, [], _, [], hW', trodAll_mk1 (shut_bool Try.underlying4 _), (trodAll_cons_mk (Below.trod laidOut (by kernel_rfl) (of_decide_eq_true (by kernel_rfl)) k0 bel lt0) (trodAll_cons_mk (Below.trod laidOut (by kernel_rfl) (of_decide_eq_true (by kernel_rfl)) k1 bel lt1) trodAll_mk0)), rfl, bel.frame _, fun h => by cases h⟩

theorem over : Rows.logTwoRow.holds Try.pinned (OpenSpec.ofChange Rows.logTwoSpec) :=
  OpenClaim.holds_of_wide 10 Try.f10 rfl rfl rfl rfl rfl rfl rfl ⟨rfl, rfl, rfl, rfl, rfl⟩ rfl rfl rfl rfl rfl (by kernel_rfl) Try.func10 (by kernel_rfl)
    (of_decide_eq_true (by kernel_rfl)) (by unfold Func.isWrapper; first | (rw [if_pos (by decide +kernel)]; kernel_rfl) | (rw [if_neg (by decide +kernel)]; exact ⟨rfl, rfl⟩))
    (fun os started H enc _ => lifted os started H enc)

theorem proved : Rows.LogTwoSaid := over
end Go.Proofs.Ytnkiifodcmfmiaa.lawLogTwo
