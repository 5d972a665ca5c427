/- Words of unlike names come in any order to one table. -/
import Derived.Test.YtbmldiklgkojnaaTbQ
namespace Go.Proofs.Ytbmldiklgkojnaa.lawTableOrder
open Go.ChangeShapes Go.WideShapes Go.ChangeAt Go.RowKit
open Go.ChangeMaps (open_string shut_string)
set_option linter.unusedVariables false

theorem app_list (a b : ByteArray) : (a ++ b).data.toList = a.data.toList ++ b.data.toList := by
  rw [ByteArray.data_append, Array.toList_append]
def ownS (w : World) (base : Nat) (v : Value) (l : List ByteArray) : Prop := w.ownsRow base 9 1 v l.length (l.map Value.string)
theorem infoStr : (Try.prog.info? 9).map (fun i => (i.zero, i.size, i.bytes)) = some (some (.string ByteArray.empty), 1, 16) := by kernel_rfl
theorem ownS.grow {w w' : World} {base : Nat} {v : Value} {l : List ByteArray} (h : ownS w base v l) (hb : Below w.heap.size w w') : ownS w' base v l :=
  World.ownsRow.kept h (row := none) ⟨hb.os, hb.tape, hb.output, hb.size, fun k hk _ => hb.block k hk⟩ (by cases v.ownBlock with | none => exact .inl rfl | some k => exact .inr (by simp))
theorem ownS.rd {w : World} {base : Nat} {v : Value} {l : List ByteArray} (h : ownS w base v l) : rdT w v l := by
  obtain ⟨hl, ⟨rfl, h0⟩ | ⟨g, cap, cur, rfl, hb, hg, hn, hc, hs, ht⟩⟩ := h
  · exact ⟨none, 0, by rw [h0], by rw [h0]; exact Nat.zero_le _, Nat.zero_le _, fun h => by omega⟩
  · refine ⟨some ⟨g, 0, none⟩, cap, rfl, hn, hc, fun _ => ⟨g, 0, rfl, fun j hj => ?_⟩⟩
    have h1 : (cur.toList.take (l.length * 1))[j]? = some (.string l[j]) := by
      rw [ht, List.getElem?_map, List.getElem?_eq_getElem hj]; rfl
    rw [List.getElem?_take] at h1
    split at h1
    · simp [World.cell?, hg] at h1 ⊢
      simpa using h1
    · cases h1

theorem len_take (A : List ByteArray) (y : ByteArray) (h : A.length ≤ 10) (j : Nat) : (tabN (A.take j) y).length ≤ 100 := by
  have key : ∀ l : List ByteArray, (tabN l y).length ≤ l.length := snoc_ind (Nat.le_refl _) fun l n ih => by
    rw [tabN_snoc, List.length_append]
    have := do_len (tabN l y) n y
    simp
    omega
  have := key (A.take j)
  rw [List.length_take] at this
  omega
theorem eq61 (n : ByteArray) (j : Nat) (h : j < n.size) (h2 : j < n.data.toList.length) : (((n[j]).toNat : Int) == 61) = (n.data.toList[j] == 61) := by
  have e : n[j] = n.data.toList[j] := rfl
  rw [e]
  generalize n.data.toList[j] = u
  rw [Bool.eq_iff_iff, beq_iff_eq, beq_iff_eq]
  constructor
  · intro h
    exact UInt8.toNat_inj.1 (by have : u.toNat = 61 := by omega
                                rw [this]; rfl)
  · rintro rfl; rfl

set_option maxRecDepth 100000 in
set_option maxHeartbeats 8000000 in
theorem walk (m : Int) (v : Value) (names : List ByteArray) (val : ByteArray) (w : World) (hm : w.cell? ⟨0, 0, none⟩ = some (.int .i64 m)) (hr : rdT w v names) (hz : ∀ s ∈ names, s.size ≤ 9223372036854775807) (hv : val.size ≤ maxLen) :
    Calls Try.prog 4 #[v, .string val] w fun e w' => e = .returned (.bool true) ∧ Below w.heap.size w w' := by
  obtain ⟨i0, hi, hz0, hz1, hz2⟩ := info_parts infoStr
  replace hi := Lib.hid hi
  unfold maxLen at hv
  have hmH := Lib.hid hm
  have h0 := cell_lt hm
  obtain ⟨a, cap, rfl, hcp, hM, ha⟩ := hr
  unfold maxLen at hM
  replace ha := Lib.hid ha
  replace hz := Lib.hid hz
  clear hm
  go_enter Try.func4, Try.ntmps4
  go_wp2_with fail
  refine (b15_any m _ hmH.out).mono ?_
  rintro r w1 ⟨rfl, hb1⟩
  have hB := Lib.hid hb1
  clear hb1
  have hC := cutN_any val 5 w1 (by omega) (by omega)
  have hvz := cutS_size val 5
  generalize cutS val 5 = y at hC hvz
  have hlenT := fun (A : List ByteArray) (h : A.length ≤ 10) (j : Nat) => len_take A y h j
  replace hlenT := Lib.hid hlenT
  go_wp2_with fail
  refine hC.mono ?_
  rintro r w2 ⟨rfl, rfl⟩
  go_wp2
  go_loopw [6, 7] (fun s i wr => ∃ (k : Nat) (A : List ByteArray), k ≤ names.length ∧ k ≤ 10 ∧ i = .int .i64 k ∧ GoodN A ∧ A.length ≤ k ∧ ownS wr w.heap.size s A ∧ Below w.heap.size w wr) (fun _ i _ => 10 - (intOf i).toNat)
  case atStart => exact ⟨0, [], Nat.zero_le _, Nat.zero_le _, rfl, goodN_nil, Nat.le_refl _, World.ownsRow_nil _ _ _ _, hB.out⟩
  case round =>
    obtain ⟨k, A, hk, hk10, rfl, hA, hAk, hown, hbel⟩ := hrel
    replace hA := Lib.hid hA
    by_cases hlt : k < names.length
    · by_cases h10 : k < 10
      · obtain ⟨g, off, rfl, hce⟩ := ha.out (by omega)
        have hcl := cell_bel (hce k hlt) hbel
        have hnz := hz.out _ (List.getElem_mem hlt)
        clear hce
        generalize names[k] = x at hcl hnz
        have hC2 := cutN_any x 8 wr hnz (by omega)
        have hxz := cutS_size x 8
        generalize cutS x 8 = n at hC2 hxz
        obtain ⟨aA, cA, rfl, hmA, hMA, hxA⟩ := hown.rd
        unfold maxLen at hMA
        replace hxA := Lib.hid hxA
        replace hown := Lib.hid hown
        replace hbel := Lib.hid hbel
        go_wp2_with fail
        refine hC2.mono ?_
        rintro r w3 ⟨rfl, rfl⟩
        clear hC2
        have hnl : n.data.toList.length = n.size := size_len n
        go_wp2
        go_loop [9, 10] (fun s i => ∃ j : Nat, j ≤ n.size ∧ i = .int .i64 j ∧ s = .bool (n.toList.isEmpty || (n.data.toList.take j).any (fun b => b == 61))) (fun _ i => n.size - (intOf i).toNat)
        case atStart => exact ⟨0, Nat.zero_le _, rfl, by simp⟩
        case round =>
          obtain ⟨j, hj, rfl, rfl⟩ := hrel
          by_cases hjl : j < n.size
          · have hst := any_take (fun b => b == 61) n.data.toList j (by omega)
            obtain ⟨f, hf⟩ : ∃ f, (n.toList.isEmpty || (n.data.toList.take j).any (fun b => b == 61)) = f := ⟨_, rfl⟩
            rw [hf]
            cases f with
            | true =>
              go_wp2
              go_round
              case rel => exact ⟨j + 1, by omega, by go_num, by rw [hst, ← Bool.or_assoc, hf]; rfl⟩
              case measure => simp [intOf]; omega
            | false =>
              go_wp2
              go_round
              case rel => exact ⟨j + 1, by omega, by go_num, by rw [eq61 n j hjl (by omega), hst, ← Bool.or_assoc, hf]; rfl⟩
              case measure => simp [intOf]; omega
          · obtain rfl : j = n.size := by omega
            rw [List.take_of_length_le (by omega : n.data.toList.length ≤ n.size)]
            have hin : Hid (inN A n = ((n.toList.isEmpty || n.data.toList.any (fun b => b == 61)) || A.any (fun x => eqS x n))) := Lib.hid rfl
            generalize (n.toList.isEmpty || n.data.toList.any (fun b => b == 61)) = B1 at hin ⊢
            go_wp2
            go_loop [9, 11] (fun s i => ∃ j : Nat, j ≤ A.length ∧ i = .int .i64 j ∧ s = .bool (B1 || (A.take j).any (fun x => eqS x n))) (fun _ i => A.length - (intOf i).toNat)
            case atStart => exact ⟨0, Nat.zero_le _, rfl, by simp⟩
            case round =>
              obtain ⟨j, hj, rfl, rfl⟩ := hrel
              by_cases hjl : j < A.length
              · have hst := any_take (fun x => eqS x n) A j hjl
                obtain ⟨gA, oA, rfl, hcA⟩ := hxA.out (by omega)
                have hcj := hcA j hjl
                clear hcA
                generalize A[j] = z at hst hcj
                obtain ⟨f, hf⟩ : ∃ f, (B1 || (A.take j).any (fun x => eqS x n)) = f := ⟨_, rfl⟩
                rw [hf]
                replace hst := Lib.hid hst
                cases f with
                | true =>
                  go_wp2
                  go_round
                  case rel => exact ⟨j + 1, by omega, by go_num, by rw [hst.out, ← Bool.or_assoc, hf]; rfl⟩
                  case measure => simp [intOf]; omega
                | false =>
                  go_wp2
                  go_round
                  case rel => exact ⟨j + 1, by omega, by go_num, by rw [hst.out, ← Bool.or_assoc, hf]; rfl⟩
                  case measure => simp [intOf]; omega
              · obtain rfl : j = A.length := by omega
                rw [List.take_length, ← hin.out]
                cases hB2 : inN A n with
                | true =>
                  go_wp2
                  go_roundw
                  case rel => exact ⟨k + 1, A, by omega, by omega, by go_num, hA.out, by omega, hown.out, hbel.out⟩
                  case measure => simp [intOf]; omega
                | false =>
                  have hA2 := Lib.hid (goodN_snoc hA.out hxz hB2)
                  have hi' := hi.out
                  have hsz := hbel.out.size
                  have hO := hown.out
                  unfold ownS at hO
                  replace hO := Lib.hid hO
                  have hb' : Hid ((A ++ [n]).map Value.string = A.map Value.string ++ [Value.string n]) := Lib.hid (by simp)
                  have hln : Hid ((A ++ [n]).length = A.length + 1) := Lib.hid (by simp)
                  clear hB2 hin
                  go_wp2_with (first
                    | (at_builtin; refine wpList_append_own _ rfl _ _ 22 rfl w.heap.size 9 i0 (.string ByteArray.empty) 1 16 Try.underlying22 hi' hz0 hz1 hz2 rfl (by decide) _ _ _ rfl (World.ownsRow.alloc hO.out _) ⟨_, 0, none⟩ 1 1 [.string n] rfl rfl ?c1 ?c2 ?c3 ?c4 ?c5 ?_))
                  case c2 => rfl
                  case c3 => unfold maxLen; omega
                  case c4 => omega
                  case c5 => omega
                  intro v7 w7 hown7 hg7 _
                  have hB7 := hbel.out.trans (((Below.refl w.heap.size wr).alloc hsz _).grown hg7 (by simp; omega) (fun k hk => (hO.out.lt k hk).1))
                  have ho7 : ownS w7 w.heap.size v7 (A ++ [n]) := by unfold ownS; rw [hb'.out, hln.out]; exact hown7
                  clear hg7 hown7 hO
                  replace ho7 := Lib.hid ho7
                  replace hB7 := Lib.hid hB7
                  go_wp2
                  go_roundw
                  case rel => exact ⟨k + 1, A ++ [n], by omega, by omega, by go_num, hA2.out, by rw [hln.out]; omega, ho7.out, hB7.out⟩
                  case measure => simp [intOf]; omega
      · skip
        obtain ⟨aA, cA, rfl, hmA, hMA, hxA⟩ := hown.rd
        unfold maxLen at hMA
        have hxA2 : 0 < A.length → ∃ b off, aA = some ⟨b, off, none⟩ ∧ b < wr.heap.size ∧ ∀ j (h : j < A.length), wr.cell? ⟨b, off + j, none⟩ = some (.string A[j]) := fun h => by
          obtain ⟨b, off, e, hc⟩ := hxA h
          exact ⟨b, off, e, cell_lt (hc 0 h), hc⟩
        replace hxA2 := Lib.hid hxA2
        clear hxA hown hz
        have hwr := hbel.size
        have hmr := cell_bel hmH.out hbel
        replace hbel := Lib.hid hbel
        go_wp2_with fail
        refine (tNew_any _).mono ?_
        rintro r w4 ⟨q1, t1, rfl, hT1, hq1, ht1, hb4⟩
        have hq1l := hT1.ltq
        have ht1l := hT1.ltb
        have hne1 := hT1.ne
        replace hT1 := Lib.hid hT1
        have hs4 := hb4.size
        go_wp2_with fail
        refine (tNew_any _).mono ?_
        rintro r w5 ⟨q2, t2, rfl, hT2, hq2, ht2, hb5⟩
        have hne2 := hT2.ne
        have hq2l := hT2.ltq
        have ht2l := hT2.ltb
        replace hT1 := Lib.hid (hT1.out.grow hb5)
        replace hT2 := Lib.hid hT2
        have hb45 := hb4.trans (hb5.mono hs4)
        have hs5 := hb45.size
        have hmB := Lib.hid (cell_bel hmr hb45)
        replace hbel := Lib.hid (hbel.out.trans (hb45.mono hwr))
        replace hb45 := Lib.hid hb45
        have hA10 : A.length ≤ 10 := by omega
        clear hb4 hb5 hmr
        go_wp2
        go_loopw [14] (fun i wx => ∃ j : Nat, j ≤ A.length ∧ i = .int .i64 j ∧ TbO wx q1 t1 (tabN (A.take j) y) ∧ TbO wx q2 t2 (tabN (A.reverse.take j) y) ∧ Chg (fun k => k = t1 ∨ k = t2) w5 wx) (fun i _ => A.length - (intOf i).toNat)
        case atStart => exact ⟨0, Nat.zero_le _, rfl, hT1.out, hT2.out, Chg.refl _ _⟩
        case round =>
          clear hT1 hT2
          obtain ⟨j, hj, rfl, hT1, hT2, hchg⟩ := hrel
          have hm6 := cell_chg hmB.out hchg (by omega)
          have hl1 : (tabN (A.take j) y).length ≤ 100 := hlenT.out A hA10 j
          have hl2 : (tabN (A.reverse.take j) y).length ≤ 100 := hlenT.out A.reverse (by rw [List.length_reverse]; exact hA10) j
          by_cases hjl : j < A.length
          · obtain ⟨gA, oA, rfl, hgl, hcA⟩ := hxA2.out (by omega)
            have hc1 := cell_chg (cell_bel (hcA j hjl) hb45.out) hchg (by omega)
            obtain ⟨jr, hjr⟩ : ∃ jr, jr = A.length - 1 - j := ⟨_, rfl⟩
            have hjr2 : jr < A.length := by omega
            have hc2 := cell_chg (cell_bel (hcA jr hjr2) hb45.out) hchg (by omega)
            have hg1 := hA.out.ok _ (List.getElem_mem hjl)
            have hg2 := hA.out.ok _ (List.getElem_mem hjr2)
            have hs1 := tabN_take A y j hjl
            have hs2 := tabN_take A.reverse y j (by rw [List.length_reverse]; exact hjl)
            have hre : A.reverse[j]'(by rw [List.length_reverse]; exact hjl) = A[jr] := by rw [List.getElem_reverse]; congr 1; omega
            rw [hre] at hs2
            clear hre hcA
            generalize A[j] = n1 at hc1 hg1 hs1
            generalize A[jr] = n2 at hc2 hg2 hs2
            obtain ⟨g11, g12, g13⟩ := hg1
            obtain ⟨g21, g22, g23⟩ := hg2
            have hk1 := next_yes (L := tabN (A.take j) y) (e := entW 1 (n1 ++ ⟨#[61]⟩ ++ y)) (a := n1) (b := y) (by dsimp only; rw [app_list, app_list, List.append_assoc]; rfl) g13 g11 (may_W (by decide) (by decide) (by rw [ByteArray.size_append, ByteArray.size_append]; show n1.size + 1 + y.size ≤ 16; omega))
            have hk2 := next_yes (L := tabN (A.reverse.take j) y) (e := entW 1 (n2 ++ ⟨#[61]⟩ ++ y)) (a := n2) (b := y) (by dsimp only; rw [app_list, app_list, List.append_assoc]; rfl) g23 g21 (may_W (by decide) (by decide) (by rw [ByteArray.size_append, ByteArray.size_append]; show n2.size + 1 + y.size ≤ 16; omega))
            rw [← hs1] at hk1
            rw [← hs2] at hk2
            obtain ⟨hk11, hk12⟩ := hk1
            obtain ⟨hk21, hk22⟩ := hk2
            have hD1 := tDo_any q1 t1 (tabN (A.take j) y) (entW 1 (n1 ++ ⟨#[61]⟩ ++ y)) m wr hT1 (by omega) hm6 (by rw [ByteArray.size_append, ByteArray.size_append]; show n1.size + 1 + y.size < _; omega)
            have hD2 := fun W (hW : TbO W q2 t2 (tabN (A.reverse.take j) y)) hmW => tDo_any q2 t2 (tabN (A.reverse.take j) y) (entW 1 (n2 ++ ⟨#[61]⟩ ++ y)) m W hW (by omega) hmW (by rw [ByteArray.size_append, ByteArray.size_append]; show n2.size + 1 + y.size < _; omega)
            rw [hk11, hk12] at hD1
            rw [hk21, hk22] at hD2
            simp only [Ent.val] at hD1 hD2
            replace hD1 := Lib.hid hD1
            replace hD2 := Lib.hid hD2
            replace hT2 := Lib.hid hT2
            replace hchg := Lib.hid hchg
            clear hs1 hs2 hk11 hk12 hk21 hk22 hT1
            go_wp2_with fail
            refine hD1.out.mono ?_
            rintro r w7 ⟨rfl, hT1, hc7⟩
            clear hD1
            have hm7 := cell_chg hm6 hc7 (by omega)
            have hc27 := cell_chg hc2 hc7 (by omega)
            have hT27 := hT2.out.chg hc7 (by omega) (by omega)
            have hchg7 := Lib.hid (hchg.out.more hc7 (fun i hi => .inl (.inl hi)))
            replace hD2 := Lib.hid (hD2.out w7 hT27 hm7)
            clear hT2 hc7 hchg hc1 hc2 hm6 hT27
            rw [hjr] at hc27
            go_wp2_with fail
            refine hD2.out.mono ?_
            rintro r w8 ⟨rfl, hT2, hc8⟩
            clear hD2
            replace hT1 := Lib.hid (hT1.chg hc8 (by omega) (by omega))
            have hchg8 := Lib.hid (hchg7.out.more hc8 (fun i hi => .inl (.inr hi)))
            replace hT2 := Lib.hid hT2
            clear hc8 hchg7 hm7 hc27
            go_wp2
            go_roundw
            case rel => exact ⟨j + 1, by omega, by go_num, hT1.out, hT2.out, hchg8.out⟩
            case measure => simp [intOf]; omega
          · obtain rfl : j = A.length := by omega
            rw [List.take_length] at hT1
            rw [show A.reverse.take A.length = A.reverse by rw [← List.length_reverse, List.take_length], tabN_rev] at hT2
            have hB := Lib.hid (hbel.out.trans (hchg.below hbel.out.size (fun k hk => by omega)))
            have hsm := hlenT.out A hA10 A.length
            rw [List.take_length] at hsm
            have hlen : (tabN A y).length = if y.size = 0 then 0 else A.length := by
              split
              · rename_i h; rw [tabN_none y h]; rfl
              · rename_i h; exact tabN_len y h A hA.out.nd
            replace hT1 := Lib.hid hT1
            replace hT2 := Lib.hid hT2
            generalize tabN A y = L at hT1 hT2 hlen hsm
            clear hchg hm6 hl1 hl2 hbel hmB hb45 hxA2
            obtain ⟨c, hc⟩ : ∃ c, crcT (bytesT L) = c := ⟨_, rfl⟩
            replace hc := Lib.hid hc
            have hN : ∀ (N : Nat), L.length = N → ∀ W q t, TbO W q t L → Calls Try.prog 19 #[.pointer (some ⟨q, 0, none⟩)] W fun r w' => ∃ a cap, r = .returned (.slice a N cap) ∧ Below W.heap.size W w' := fun N hN W q t hW =>
              (tNames_any q t L W hW (by omega)).mono fun r w' ⟨v9, e, hrow, hb9⟩ => by
                rw [hN] at hrow
                obtain ⟨_, ⟨rfl, h0⟩ | ⟨g, cap, cur, rfl, _⟩⟩ := hrow
                · exact ⟨none, 0, by rw [e, h0], hb9⟩
                · exact ⟨_, cap, e, hb9⟩
            by_cases hy0 : y.size = 0
            · rw [if_pos hy0] at hlen
              have hye : y = ByteArray.empty := ba_ext (by rw [List.length_eq_zero_iff.1 ((size_len y).trans hy0)]; rfl)
              have hd : y.toList.isEmpty = true := by rw [hye]; exact sNil
              have hN2 := Lib.hid (hN _ hlen)
              clear hye hN hlen
              go_wp2_with fail
              refine (tSum_any q1 t1 L _ hT1.out (by omega)).mono ?_
              rintro r w9 ⟨rfl, hb9⟩
              rw [hc.out]
              replace hT1 := Lib.hid (hT1.out.grow hb9)
              replace hT2 := Lib.hid (hT2.out.grow hb9)
              replace hB := Lib.hid (hB.out.trans (hb9.mono hB.out.size))
              clear hb9
              go_wp2_with fail
              refine (tSum_any q2 t2 L _ hT2.out (by omega)).mono ?_
              rintro r w10 ⟨rfl, hb10⟩
              rw [hc.out]
              replace hT1 := Lib.hid (hT1.out.grow hb10)
              replace hT2 := Lib.hid (hT2.out.grow hb10)
              replace hB := Lib.hid (hB.out.trans (hb10.mono hB.out.size))
              clear hb10
              go_wp2_with fail
              refine (hN2.out _ _ _ hT1.out).mono ?_
              rintro r w11 ⟨a11, c11, rfl, hb11⟩
              replace hT2 := Lib.hid (hT2.out.grow hb11)
              replace hB := Lib.hid (hB.out.trans (hb11.mono hB.out.size))
              clear hb11
              go_wp2_with fail
              refine (hN2.out _ _ _ hT2.out).mono ?_
              rintro r w12 ⟨a12, c12, rfl, hb12⟩
              replace hB := Lib.hid (hB.out.trans (hb12.mono hB.out.size))
              clear hb12
              go_wp2
              go_ret
              exact ⟨rfl, hB.out⟩
            · rw [if_neg hy0] at hlen
              have hd : y.toList.isEmpty = false := sNe (fun e => hy0 (by rw [e]; rfl))
              have hN2 := Lib.hid (hN _ hlen)
              clear hN hlen
              go_wp2_with fail
              refine (tSum_any q1 t1 L _ hT1.out (by omega)).mono ?_
              rintro r w9 ⟨rfl, hb9⟩
              rw [hc.out]
              replace hT1 := Lib.hid (hT1.out.grow hb9)
              replace hT2 := Lib.hid (hT2.out.grow hb9)
              replace hB := Lib.hid (hB.out.trans (hb9.mono hB.out.size))
              clear hb9
              go_wp2_with fail
              refine (tSum_any q2 t2 L _ hT2.out (by omega)).mono ?_
              rintro r w10 ⟨rfl, hb10⟩
              rw [hc.out]
              replace hT1 := Lib.hid (hT1.out.grow hb10)
              replace hT2 := Lib.hid (hT2.out.grow hb10)
              replace hB := Lib.hid (hB.out.trans (hb10.mono hB.out.size))
              clear hb10
              go_wp2_with fail
              refine (hN2.out _ _ _ hT1.out).mono ?_
              rintro r w11 ⟨a11, c11, rfl, hb11⟩
              replace hT2 := Lib.hid (hT2.out.grow hb11)
              replace hB := Lib.hid (hB.out.trans (hb11.mono hB.out.size))
              clear hb11
              go_wp2_with fail
              refine (hN2.out _ _ _ hT2.out).mono ?_
              rintro r w12 ⟨a12, c12, rfl, hb12⟩
              replace hB := Lib.hid (hB.out.trans (hb12.mono hB.out.size))
              clear hb12
              go_wp2
              go_ret
              exact ⟨rfl, hB.out⟩
    · skip
      obtain ⟨aA, cA, rfl, hmA, hMA, hxA⟩ := hown.rd
      unfold maxLen at hMA
      have hxA2 : 0 < A.length → ∃ b off, aA = some ⟨b, off, none⟩ ∧ b < wr.heap.size ∧ ∀ j (h : j < A.length), wr.cell? ⟨b, off + j, none⟩ = some (.string A[j]) := fun h => by
        obtain ⟨b, off, e, hc⟩ := hxA h
        exact ⟨b, off, e, cell_lt (hc 0 h), hc⟩
      replace hxA2 := Lib.hid hxA2
      clear hxA hown hz
      have hwr := hbel.size
      have hmr := cell_bel hmH.out hbel
      replace hbel := Lib.hid hbel
      go_wp2_with fail
      refine (tNew_any _).mono ?_
      rintro r w4 ⟨q1, t1, rfl, hT1, hq1, ht1, hb4⟩
      have hq1l := hT1.ltq
      have ht1l := hT1.ltb
      have hne1 := hT1.ne
      replace hT1 := Lib.hid hT1
      have hs4 := hb4.size
      go_wp2_with fail
      refine (tNew_any _).mono ?_
      rintro r w5 ⟨q2, t2, rfl, hT2, hq2, ht2, hb5⟩
      have hne2 := hT2.ne
      have hq2l := hT2.ltq
      have ht2l := hT2.ltb
      replace hT1 := Lib.hid (hT1.out.grow hb5)
      replace hT2 := Lib.hid hT2
      have hb45 := hb4.trans (hb5.mono hs4)
      have hs5 := hb45.size
      have hmB := Lib.hid (cell_bel hmr hb45)
      replace hbel := Lib.hid (hbel.out.trans (hb45.mono hwr))
      replace hb45 := Lib.hid hb45
      have hA10 : A.length ≤ 10 := by omega
      clear hb4 hb5 hmr
      go_wp2
      go_loopw [14] (fun i wx => ∃ j : Nat, j ≤ A.length ∧ i = .int .i64 j ∧ TbO wx q1 t1 (tabN (A.take j) y) ∧ TbO wx q2 t2 (tabN (A.reverse.take j) y) ∧ Chg (fun k => k = t1 ∨ k = t2) w5 wx) (fun i _ => A.length - (intOf i).toNat)
      case atStart => exact ⟨0, Nat.zero_le _, rfl, hT1.out, hT2.out, Chg.refl _ _⟩
      case round =>
        clear hT1 hT2
        obtain ⟨j, hj, rfl, hT1, hT2, hchg⟩ := hrel
        have hm6 := cell_chg hmB.out hchg (by omega)
        have hl1 : (tabN (A.take j) y).length ≤ 100 := hlenT.out A hA10 j
        have hl2 : (tabN (A.reverse.take j) y).length ≤ 100 := hlenT.out A.reverse (by rw [List.length_reverse]; exact hA10) j
        by_cases hjl : j < A.length
        · obtain ⟨gA, oA, rfl, hgl, hcA⟩ := hxA2.out (by omega)
          have hc1 := cell_chg (cell_bel (hcA j hjl) hb45.out) hchg (by omega)
          obtain ⟨jr, hjr⟩ : ∃ jr, jr = A.length - 1 - j := ⟨_, rfl⟩
          have hjr2 : jr < A.length := by omega
          have hc2 := cell_chg (cell_bel (hcA jr hjr2) hb45.out) hchg (by omega)
          have hg1 := hA.out.ok _ (List.getElem_mem hjl)
          have hg2 := hA.out.ok _ (List.getElem_mem hjr2)
          have hs1 := tabN_take A y j hjl
          have hs2 := tabN_take A.reverse y j (by rw [List.length_reverse]; exact hjl)
          have hre : A.reverse[j]'(by rw [List.length_reverse]; exact hjl) = A[jr] := by rw [List.getElem_reverse]; congr 1; omega
          rw [hre] at hs2
          clear hre hcA
          generalize A[j] = n1 at hc1 hg1 hs1
          generalize A[jr] = n2 at hc2 hg2 hs2
          obtain ⟨g11, g12, g13⟩ := hg1
          obtain ⟨g21, g22, g23⟩ := hg2
          have hk1 := next_yes (L := tabN (A.take j) y) (e := entW 1 (n1 ++ ⟨#[61]⟩ ++ y)) (a := n1) (b := y) (by dsimp only; rw [app_list, app_list, List.append_assoc]; rfl) g13 g11 (may_W (by decide) (by decide) (by rw [ByteArray.size_append, ByteArray.size_append]; show n1.size + 1 + y.size ≤ 16; omega))
          have hk2 := next_yes (L := tabN (A.reverse.take j) y) (e := entW 1 (n2 ++ ⟨#[61]⟩ ++ y)) (a := n2) (b := y) (by dsimp only; rw [app_list, app_list, List.append_assoc]; rfl) g23 g21 (may_W (by decide) (by decide) (by rw [ByteArray.size_append, ByteArray.size_append]; show n2.size + 1 + y.size ≤ 16; omega))
          rw [← hs1] at hk1
          rw [← hs2] at hk2
          obtain ⟨hk11, hk12⟩ := hk1
          obtain ⟨hk21, hk22⟩ := hk2
          have hD1 := tDo_any q1 t1 (tabN (A.take j) y) (entW 1 (n1 ++ ⟨#[61]⟩ ++ y)) m wr hT1 (by omega) hm6 (by rw [ByteArray.size_append, ByteArray.size_append]; show n1.size + 1 + y.size < _; omega)
          have hD2 := fun W (hW : TbO W q2 t2 (tabN (A.reverse.take j) y)) hmW => tDo_any q2 t2 (tabN (A.reverse.take j) y) (entW 1 (n2 ++ ⟨#[61]⟩ ++ y)) m W hW (by omega) hmW (by rw [ByteArray.size_append, ByteArray.size_append]; show n2.size + 1 + y.size < _; omega)
          rw [hk11, hk12] at hD1
          rw [hk21, hk22] at hD2
          simp only [Ent.val] at hD1 hD2
          replace hD1 := Lib.hid hD1
          replace hD2 := Lib.hid hD2
          replace hT2 := Lib.hid hT2
          replace hchg := Lib.hid hchg
          clear hs1 hs2 hk11 hk12 hk21 hk22 hT1
          go_wp2_with fail
          refine hD1.out.mono ?_
          rintro r w7 ⟨rfl, hT1, hc7⟩
          clear hD1
          have hm7 := cell_chg hm6 hc7 (by omega)
          have hc27 := cell_chg hc2 hc7 (by omega)
          have hT27 := hT2.out.chg hc7 (by omega) (by omega)
          have hchg7 := Lib.hid (hchg.out.more hc7 (fun i hi => .inl (.inl hi)))
          replace hD2 := Lib.hid (hD2.out w7 hT27 hm7)
          clear hT2 hc7 hchg hc1 hc2 hm6 hT27
          rw [hjr] at hc27
          go_wp2_with fail
          refine hD2.out.mono ?_
          rintro r w8 ⟨rfl, hT2, hc8⟩
          clear hD2
          replace hT1 := Lib.hid (hT1.chg hc8 (by omega) (by omega))
          have hchg8 := Lib.hid (hchg7.out.more hc8 (fun i hi => .inl (.inr hi)))
          replace hT2 := Lib.hid hT2
          clear hc8 hchg7 hm7 hc27
          go_wp2
          go_roundw
          case rel => exact ⟨j + 1, by omega, by go_num, hT1.out, hT2.out, hchg8.out⟩
          case measure => simp [intOf]; omega
        · obtain rfl : j = A.length := by omega
          rw [List.take_length] at hT1
          rw [show A.reverse.take A.length = A.reverse by rw [← List.length_reverse, List.take_length], tabN_rev] at hT2
          have hB := Lib.hid (hbel.out.trans (hchg.below hbel.out.size (fun k hk => by omega)))
          have hsm := hlenT.out A hA10 A.length
          rw [List.take_length] at hsm
          have hlen : (tabN A y).length = if y.size = 0 then 0 else A.length := by
            split
            · rename_i h; rw [tabN_none y h]; rfl
            · rename_i h; exact tabN_len y h A hA.out.nd
          replace hT1 := Lib.hid hT1
          replace hT2 := Lib.hid hT2
          generalize tabN A y = L at hT1 hT2 hlen hsm
          clear hchg hm6 hl1 hl2 hbel hmB hb45 hxA2
          obtain ⟨c, hc⟩ : ∃ c, crcT (bytesT L) = c := ⟨_, rfl⟩
          replace hc := Lib.hid hc
          have hN : ∀ (N : Nat), L.length = N → ∀ W q t, TbO W q t L → Calls Try.prog 19 #[.pointer (some ⟨q, 0, none⟩)] W fun r w' => ∃ a cap, r = .returned (.slice a N cap) ∧ Below W.heap.size W w' := fun N hN W q t hW =>
            (tNames_any q t L W hW (by omega)).mono fun r w' ⟨v9, e, hrow, hb9⟩ => by
              rw [hN] at hrow
              obtain ⟨_, ⟨rfl, h0⟩ | ⟨g, cap, cur, rfl, _⟩⟩ := hrow
              · exact ⟨none, 0, by rw [e, h0], hb9⟩
              · exact ⟨_, cap, e, hb9⟩
          by_cases hy0 : y.size = 0
          · rw [if_pos hy0] at hlen
            have hye : y = ByteArray.empty := ba_ext (by rw [List.length_eq_zero_iff.1 ((size_len y).trans hy0)]; rfl)
            have hd : y.toList.isEmpty = true := by rw [hye]; exact sNil
            have hN2 := Lib.hid (hN _ hlen)
            clear hye hN hlen
            go_wp2_with fail
            refine (tSum_any q1 t1 L _ hT1.out (by omega)).mono ?_
            rintro r w9 ⟨rfl, hb9⟩
            rw [hc.out]
            replace hT1 := Lib.hid (hT1.out.grow hb9)
            replace hT2 := Lib.hid (hT2.out.grow hb9)
            replace hB := Lib.hid (hB.out.trans (hb9.mono hB.out.size))
            clear hb9
            go_wp2_with fail
            refine (tSum_any q2 t2 L _ hT2.out (by omega)).mono ?_
            rintro r w10 ⟨rfl, hb10⟩
            rw [hc.out]
            replace hT1 := Lib.hid (hT1.out.grow hb10)
            replace hT2 := Lib.hid (hT2.out.grow hb10)
            replace hB := Lib.hid (hB.out.trans (hb10.mono hB.out.size))
            clear hb10
            go_wp2_with fail
            refine (hN2.out _ _ _ hT1.out).mono ?_
            rintro r w11 ⟨a11, c11, rfl, hb11⟩
            replace hT2 := Lib.hid (hT2.out.grow hb11)
            replace hB := Lib.hid (hB.out.trans (hb11.mono hB.out.size))
            clear hb11
            go_wp2_with fail
            refine (hN2.out _ _ _ hT2.out).mono ?_
            rintro r w12 ⟨a12, c12, rfl, hb12⟩
            replace hB := Lib.hid (hB.out.trans (hb12.mono hB.out.size))
            clear hb12
            go_wp2
            go_ret
            exact ⟨rfl, hB.out⟩
          · rw [if_neg hy0] at hlen
            have hd : y.toList.isEmpty = false := sNe (fun e => hy0 (by rw [e]; rfl))
            have hN2 := Lib.hid (hN _ hlen)
            clear hN hlen
            go_wp2_with fail
            refine (tSum_any q1 t1 L _ hT1.out (by omega)).mono ?_
            rintro r w9 ⟨rfl, hb9⟩
            rw [hc.out]
            replace hT1 := Lib.hid (hT1.out.grow hb9)
            replace hT2 := Lib.hid (hT2.out.grow hb9)
            replace hB := Lib.hid (hB.out.trans (hb9.mono hB.out.size))
            clear hb9
            go_wp2_with fail
            refine (tSum_any q2 t2 L _ hT2.out (by omega)).mono ?_
            rintro r w10 ⟨rfl, hb10⟩
            rw [hc.out]
            replace hT1 := Lib.hid (hT1.out.grow hb10)
            replace hT2 := Lib.hid (hT2.out.grow hb10)
            replace hB := Lib.hid (hB.out.trans (hb10.mono hB.out.size))
            clear hb10
            go_wp2_with fail
            refine (hN2.out _ _ _ hT1.out).mono ?_
            rintro r w11 ⟨a11, c11, rfl, hb11⟩
            replace hT2 := Lib.hid (hT2.out.grow hb11)
            replace hB := Lib.hid (hB.out.trans (hb11.mono hB.out.size))
            clear hb11
            go_wp2_with fail
            refine (hN2.out _ _ _ hT2.out).mono ?_
            rintro r w12 ⟨a12, c12, rfl, hb12⟩
            replace hB := Lib.hid (hB.out.trans (hb12.mono hB.out.size))
            clear hb12
            go_wp2
            go_ret
            exact ⟨rfl, hB.out⟩

/-! the row's step, written out by law.py -/
set_option maxRecDepth 100000 in
theorem lifted (os : Os) (started : os.Started) (H : Type) (enc : TypeId × Value → H) :
    ReturnsInHanded {} Try.checked os 4 .any (Rows.tableOrderSpec.pre6 enc Try.prog Try.f4 Rows.tableOrderRow.domain false) (Rows.tableOrderSpec.post enc Try.prog Try.f4 false true false false) := by
  refine returnsInHanded_of_change_shaped (C := Try.checked) own started (by kernel_rfl) Try.func4
    (ChangeSpec.witness6 (enc := enc) (C := Try.checked) false ⟨#[], #[.slice none 0 0, .string ByteArray.empty], []⟩ 8 (by kernel_rfl) (by kernel_rfl) (by kernel_rfl) (by kernel_rfl)) ?_
  intro W base args ds gs before hval0 hW hcnd _ hsh _
  have hval : ∀ (j : Nat) t v, Try.f4.params[j]? = some t → args[j]? = some v → Value.okWide Try.prog W .any base t v := hval0
  have hW' := hW
  obtain ⟨p, q, hA0, hV, rfl, hfz, hnd⟩ := hW
  have hA : DataW.TrodAll enc Try.prog W 0 (fun _ => true) true Try.f4.params.toList args.toList ds p := hA0
  rw [Try.params4] at hA hval
  obtain ⟨v0, vs0, d0, ds0, p0, q0, hargs, rfl, rfl, h0, r0⟩ := trodAll_cons hA
  obtain ⟨v1, vs1, d1, ds1, p1, q1, rfl, rfl, rfl, h1, r1⟩ := trodAll_cons r0
  obtain ⟨rfl, rfl, rfl⟩ := trodAll_nil r1
  obtain rfl : args = #[v0, v1] := by cases args; simp_all
  obtain ⟨rfl, rfl⟩ := trodVars_none hV
  have k0 := h0
  have lt0 : ∀ x ∈ p0, x.block < W.heap.size := by obtain ⟨m, hm⟩ := k0; exact DataW.trod_lt m _ _ _ hm
  have k1 := h1
  have lt1 : ∀ x ∈ p1, x.block < W.heap.size := by obtain ⟨m, hm⟩ := k1; exact DataW.trod_lt m _ _ _ hm
  obtain ⟨l0, w0, b0⟩ := slstring_open (hval 0 22 v0 rfl rfl) h0
  obtain ⟨a1, rfl, rfl, rfl, w1⟩ := open_string Try.underlying9 (hval 1 9 v1 rfl rfl) h1
  clear hA0 hval0
  simp only [List.append_nil] at hW'
  obtain ⟨m, hm⟩ := maxLen_cell W hsh
  refine (walk m v0 l0 a1 W hm w0 b0 w1).mono fun e W' ⟨he, bel⟩ => ?_
  subst he
  exact ⟨_, rfl, _, _, _, [], _, [], hW', trodAll_mk1 (shut_bool Try.underlying4 _), (trodAll_cons_mk (Below.trod laidOut (by kernel_rfl) (of_decide_eq_true (by kernel_rfl)) k0 bel lt0) (trodAll_cons_mk (Below.trod laidOut (by kernel_rfl) (of_decide_eq_true (by kernel_rfl)) k1 bel lt1) trodAll_mk0)), rfl, bel.frame _, fun h => by cases h⟩

theorem over : Rows.tableOrderRow.holds Try.pinned (OpenSpec.ofChange Rows.tableOrderSpec) :=
  OpenClaim.holds_of_wide 4 Try.f4 rfl rfl rfl rfl rfl rfl rfl ⟨rfl, rfl, rfl, rfl, rfl⟩ rfl rfl rfl rfl rfl (by kernel_rfl) Try.func4 (by kernel_rfl)
    (of_decide_eq_true (by kernel_rfl)) (by unfold Func.isWrapper; first | (rw [if_pos (by decide +kernel)]; kernel_rfl) | (rw [if_neg (by decide +kernel)]; exact ⟨rfl, rfl⟩))
    (fun os started H enc _ => lifted os started H enc)

theorem proved : Rows.TableOrderSaid := over
end Go.Proofs.Ytbmldiklgkojnaa.lawTableOrder
