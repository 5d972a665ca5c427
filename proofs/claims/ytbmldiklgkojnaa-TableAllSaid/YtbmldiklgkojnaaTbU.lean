/- Contracts of the reference's table: what it does; its sum. -/
import Derived.Test.YtbmldiklgkojnaaTbT
import Derived.Test.YtbmldiklgkojnaaPlanE
namespace Go.Proofs.Ytbmldiklgkojnaa
open Go.RowKit
set_option linter.unusedVariables false

theorem less_lt : ∀ a b : List UInt8, Op.bytesLess a b = decide (a < b)
  | [], [] => by simp [Op.bytesLess]
  | [], _ :: _ => by simp [Op.bytesLess]
  | _ :: _, [] => by simp [Op.bytesLess]
  | a :: r, b :: s => by
    unfold Op.bytesLess
    rw [less_lt r s, Bool.eq_iff_iff]
    simp only [Bool.or_eq_true, Bool.and_eq_true, decide_eq_true_eq, beq_iff_eq, List.cons_lt_cons_iff]
theorem infoPair : (Try.prog.info? 42).map (fun i => (i.zero, i.size, i.bytes)) = some (some (.agg #[.string ByteArray.empty, .string ByteArray.empty]), 2, 32) := by kernel_rfl
theorem news_P (p : ByteArray × ByteArray) : ∀ u ∈ cellsP p, u.oneCell' = true := by intro u hu; simp at hu; rcases hu with rfl | rfl <;> rfl
theorem ownP.grow {w w' : World} {base : Nat} {v : Value} {L : Tb} (h : ownP w base v L) (hb : Below w.heap.size w w') : ownP w' base v L :=
  World.ownsRow.kept h (row := none) ⟨hb.os, hb.tape, hb.output, hb.size, fun k hk _ => hb.block k hk⟩ (by cases v.ownBlock with | none => exact .inl rfl | some k => exact .inr (by simp))

set_option maxRecDepth 100000 in
set_option maxHeartbeats 8000000 in
theorem r12Do_any (rb : Nat) (L : Tb) (e : Ent) (w : World) (h : rtO w rb L) (hu : UpT L) (hl : L.length ≤ 100) (hs : e.data.size ≤ 1000) :
    Calls Try.prog 12 #[.pointer (some ⟨rb, 0, none⟩), e.val] w fun r w' => r = .returned (.bool (okDo e)) ∧ rtO w' rb (nextT L e) ∧ Chg (fun j => j = rb) w w' := by
  obtain ⟨i0, hi, hz0, hz1, hz2⟩ := info_parts infoPair
  replace hi := Lib.hid hi
  obtain ⟨wa, hwa⟩ : ∃ W, W = w.alloc (.cells e.cells.toArray 32) := ⟨_, rfl⟩
  have hba : Below w.heap.size w wa := hwa ▸ (Below.refl _ _).alloc (Nat.le_refl _) _
  have hx : wa.heap[w.heap.size]? = some (.cells e.cells.toArray 32 (0, 0)) := hwa ▸ at_new _ _
  obtain ⟨nE, hnE⟩ : ∃ n, n = w.heap.size := ⟨_, rfl⟩
  rw [← hnE] at hx
  have ha := Lib.hid (h.grow hba)
  have hB := Lib.hid hba
  have hmay := rmay12_any e
  have hok : okDo e = ((wordT e.data).2.2 && mayE e) := rfl
  have hnx : nextT L e = if okDo e = true then doT L (wordT e.data).1 (wordT e.data).2.1 else L := rfl
  have hW := fun w' => r12Word_any e.data w' hs
  clear h hba
  obtain ⟨a1, a2, a3, a4, a5, a6, s⟩ := e
  simp only [Ent.val] at hmay ⊢
  dsimp only at hok hnx hW hs
  obtain ⟨⟨a, b, k⟩, hwd⟩ : ∃ x, wordT s = x := ⟨_, rfl⟩
  rw [hwd] at hok hnx hW
  obtain ⟨my, hmy⟩ : ∃ x, mayE (⟨a1, a2, a3, a4, a5, a6, s⟩ : Ent) = x := ⟨_, rfl⟩
  rw [hmy] at hok hmay
  dsimp only at hok hnx hW
  generalize nextT L ⟨a1, a2, a3, a4, a5, a6, s⟩ = L' at hnx ⊢
  generalize okDo ⟨a1, a2, a3, a4, a5, a6, s⟩ = ok at hok hnx ⊢
  subst hok
  clear hwd hmy
  replace hx := Lib.hid hx
  replace hnx := Lib.hid hnx
  replace hW := Lib.hid hW
  replace hmay := Lib.hid hmay
  have c0 := cell_at hx.out 0
  have c1 := cell_at hx.out 1
  have c2 := cell_at hx.out 2
  have c3 := cell_at hx.out 3
  have c4 := cell_at hx.out 4
  have c5 := cell_at hx.out 5
  have c6 := cell_at hx.out 6
  simp only [List.getElem?_toArray, List.getElem?_cons_zero, List.getElem?_cons_succ] at c0 c1 c2 c3 c4 c5 c6
  go_enter Try.func12, Try.ntmps12
  go_upto_region 1 with (fail)
  rw [← hwa, ← hnE]
  clear hwa
  replace hnE := Lib.hid hnE
  go_wp2_with fail
  refine (hW.out _).mono ?_
  rintro r w2 ⟨rfl, hb2⟩
  clear c0 c1 c2 c3 c4 c5 c6
  replace hx := Lib.hid (at_below hx.out hb2)
  replace ha := Lib.hid (ha.out.grow hb2)
  replace hB := Lib.hid (hB.out.trans (hb2.mono hB.out.size))
  clear hb2 hW
  have c0 := cell_at hx.out 0
  have c1 := cell_at hx.out 1
  have c2 := cell_at hx.out 2
  have c3 := cell_at hx.out 3
  have c4 := cell_at hx.out 4
  have c5 := cell_at hx.out 5
  have c6 := cell_at hx.out 6
  simp only [List.getElem?_toArray, List.getElem?_cons_zero, List.getElem?_cons_succ] at c0 c1 c2 c3 c4 c5 c6
  cases k with
  | false =>
    have hL : Hid (L' = L) := Lib.hid (by rw [hnx.out]; rfl)
    go_wp2
    go_ret
    exact ⟨rfl, by rw [hL.out]; exact ha.out, .of_below hB.out⟩
  | true =>
    go_wp2_with fail
    refine (hmay.out _).mono ?_
    rintro r w3 ⟨rfl, hb3⟩
    clear c0 c1 c2 c3 c4 c5 c6
    replace ha := Lib.hid (ha.out.grow hb3)
    replace hB := Lib.hid (hB.out.trans (hb3.mono hB.out.size))
    clear hb3 hx hmay
    cases my with
    | false =>
      have hL : Hid (L' = L) := Lib.hid (by rw [hnx.out]; rfl)
      go_wp2
      go_ret
      exact ⟨rfl, by rw [hL.out]; exact ha.out, .of_below hB.out⟩
    | true =>
      have hfin : Hid (rEnd a b (L.foldl (rStep a b) ([], decide (b.size = 0))) = L') := Lib.hid (by rw [r_do hu, hnx.out]; rfl)
      clear hnx
      have hd : b.toList.isEmpty = decide (b.size = 0) := by
        by_cases h : b.size = 0
        · have : b = ByteArray.empty := ba_ext (by rw [List.length_eq_zero_iff.1 ((size_len b).trans h)]; rfl)
          subst this
          rw [sNil]; rfl
        · rw [sNe (fun e => h (by rw [e]; rfl)), decide_eq_false h]
      have hrl := r_len a b (decide (b.size = 0)) L
      generalize decide (b.size = 0) = d0 at hfin hd hrl
      replace hrl := Lib.hid hrl
      obtain ⟨v, hv1, aa, cap, rfl, hm, hM, hrow⟩ := ha.out
      have cv := cell_at hv1 0
      simp only [List.getElem?_toArray, List.getElem?_cons_zero] at cv
      have hrbl := at_lt hv1
      unfold maxLen at hM
      replace hrow := Lib.hid hrow
      replace hv1 := Lib.hid hv1
      go_wp2
      go_loopw [8, 9, 10] (fun s d i wr => ∃ (k : Nat) (A : Tb) (f : Bool), k ≤ L.length ∧ i = .int .i64 k ∧ d = .bool f ∧ (L.take k).foldl (rStep a b) ([], d0) = (A, f) ∧ ownP wr w3.heap.size s A ∧ Below w3.heap.size w3 wr) (fun _ _ i _ => L.length - (intOf i).toNat)
      case atStart => exact ⟨0, [], d0, Nat.zero_le _, rfl, rfl, rfl, World.ownsRow_nil _ _ _ _, Below.refl _ _⟩
      case round =>
        obtain ⟨k, A, f, hk, rfl, rfl, hst, hown, hbel⟩ := hrel
        have hvr := cell_bel cv hbel
        by_cases hlt : k < L.length
        · obtain ⟨g, off, rfl, hc⟩ := hrow.out (by omega)
          have hc3 := hc k hlt
          have hck := cP.grow _ _ _ _ _ hc3 hbel
          have hnxt := foldl_take (rStep a b) ([], d0) L k hlt
          rw [hst] at hnxt
          have hAl := hrl.out k
          rw [hst] at hAl
          clear hc
          generalize L[k] = p at hck hnxt hc3
          obtain ⟨p1, p2⟩ := p
          obtain ⟨x0, x1⟩ := hck
          dsimp only at x0 x1 hAl
          replace hnxt := Lib.hid hnxt
          replace hown := Lib.hid hown
          replace hbel := Lib.hid hbel
          have hc3 := hc3
          have hless : Op.bytesLess p1.toList a.toList = decide (nm (p1, p2) < a.data.toList) := by rw [ByteArray.toList_eq, ByteArray.toList_eq, less_lt]
          cases f with
          | true =>
            have hst1 : rS1 a b (A, true) (p1, p2) = (A, true) := if_neg (fun h => by cases h.1)
            replace hst1 := Lib.hid hst1
            clear hless
            have heq : (p1.toList == a.toList) = decide (nm (p1, p2) = a.data.toList) := by rw [ByteArray.toList_eq, ByteArray.toList_eq, Bool.eq_iff_iff, beq_iff_eq, decide_eq_true_eq]
            by_cases he : nm (p1, p2) = a.data.toList
            · rw [decide_eq_true he] at heq
              have hne : (p1.toList != a.toList) = false := by simp [bne, heq]
              have hs2 : Hid ((L.take (k + 1)).foldl (rStep a b) ([], d0) = (A, true)) := Lib.hid (by rw [hnxt.out]; unfold rStep; rw [if_pos he, hst1.out])
              clear he
              go_wp2
              go_roundw
              case rel => exact ⟨k + 1, A, true, by omega, by go_num, rfl, hs2.out, hown.out, hbel.out⟩
              case measure => simp [intOf]; omega
            · rw [decide_eq_false he] at heq
              have hne : (p1.toList != a.toList) = true := by simp [bne, heq]
              have hs2 : Hid ((L.take (k + 1)).foldl (rStep a b) ([], d0) = (A ++ [(p1, p2)], true)) := Lib.hid (by rw [hnxt.out]; unfold rStep; rw [if_neg he, hst1.out])
              clear he
              have hA9 : ((A)).length ≤ 203 := by first | omega | (simp only [List.length_append, List.length_cons, List.length_nil]; omega)
              have hi9 := hi.out
              have hO9 := hown.out
              unfold ownP at hO9
              replace hO9 := Lib.hid hO9
              have hz9 := hbel.out.size
              go_wp2_with (first
                | (at_builtin; refine wpList_append_own _ rfl _ _ 27 rfl w3.heap.size 42 i0 (.agg #[.string ByteArray.empty, .string ByteArray.empty]) 2 32 Try.underlying27 hi9 hz0 hz1 hz2 rfl (by decide) _ _ _ rfl (World.ownsRow.alloc hO9.out _) ⟨_, 0, none⟩ 1 1 (cellsP (p1, p2)) rfl rfl ?e1 ?e2 ?e3 ?e4 ?e5 ?_))
              try (case e1 => exact World.news_of_block (cs := (cellsP (p1, p2)).toArray) (t := 42) (fr := (0, 0)) (heap_alloc_new wr _))
              case e2 => first | exact news_P (p1, p2) | (intro u hu; simp at hu; rcases hu with rfl | rfl <;> rfl) | exact ⟨rfl, rfl⟩ | rfl | simp [Value.oneCell']
              case e3 => unfold maxLen; first | omega | (simp only [List.length_append, List.length_cons, List.length_nil]; omega)
              case e4 => first | omega | (simp only [List.length_append, List.length_cons, List.length_nil] <;> omega)
              case e5 => first | omega | (simp; omega)
              intro v9 w9 hown9 hg9 _
              have ho9 : ownP w9 w3.heap.size v9 ((A) ++ [(p1, p2)]) := ownP_snoc (n := ((A)).length) rfl (by simpa using hown9)
              have hB9 : Below w3.heap.size w3 w9 := hbel.out.trans (((Below.refl w3.heap.size wr).alloc hz9 _).grown hg9 (by simp; omega) (fun k hk => (hO9.out.lt k hk).1))
              clear hg9 hown9 hO9 hA9
              replace ho9 := Lib.hid ho9
              replace hB9 := Lib.hid hB9
              go_wp2
              go_roundw
              case rel => exact ⟨k + 1, A ++ [(p1, p2)], true, by omega, by go_num, rfl, hs2.out, ho9.out, hB9.out⟩
              case measure => simp [intOf]; omega
          | false =>
            by_cases hlt2 : nm (p1, p2) < a.data.toList
            · rw [decide_eq_true hlt2] at hless
              have hst1 : rS1 a b (A, false) (p1, p2) = (A, false) := if_neg (fun h => by exact absurd hlt2 (List.not_lt.2 h.2))
              replace hst1 := Lib.hid hst1
              clear hlt2
              have heq : (p1.toList == a.toList) = decide (nm (p1, p2) = a.data.toList) := by rw [ByteArray.toList_eq, ByteArray.toList_eq, Bool.eq_iff_iff, beq_iff_eq, decide_eq_true_eq]
              by_cases he : nm (p1, p2) = a.data.toList
              · rw [decide_eq_true he] at heq
                have hne : (p1.toList != a.toList) = false := by simp [bne, heq]
                have hs2 : Hid ((L.take (k + 1)).foldl (rStep a b) ([], d0) = (A, false)) := Lib.hid (by rw [hnxt.out]; unfold rStep; rw [if_pos he, hst1.out])
                clear he
                go_wp2
                go_roundw
                case rel => exact ⟨k + 1, A, false, by omega, by go_num, rfl, hs2.out, hown.out, hbel.out⟩
                case measure => simp [intOf]; omega
              · rw [decide_eq_false he] at heq
                have hne : (p1.toList != a.toList) = true := by simp [bne, heq]
                have hs2 : Hid ((L.take (k + 1)).foldl (rStep a b) ([], d0) = (A ++ [(p1, p2)], false)) := Lib.hid (by rw [hnxt.out]; unfold rStep; rw [if_neg he, hst1.out])
                clear he
                have hA9 : ((A)).length ≤ 203 := by first | omega | (simp only [List.length_append, List.length_cons, List.length_nil]; omega)
                have hi9 := hi.out
                have hO9 := hown.out
                unfold ownP at hO9
                replace hO9 := Lib.hid hO9
                have hz9 := hbel.out.size
                go_wp2_with (first
                  | (at_builtin; refine wpList_append_own _ rfl _ _ 27 rfl w3.heap.size 42 i0 (.agg #[.string ByteArray.empty, .string ByteArray.empty]) 2 32 Try.underlying27 hi9 hz0 hz1 hz2 rfl (by decide) _ _ _ rfl (World.ownsRow.alloc hO9.out _) ⟨_, 0, none⟩ 1 1 (cellsP (p1, p2)) rfl rfl ?e1 ?e2 ?e3 ?e4 ?e5 ?_))
                try (case e1 => exact World.news_of_block (cs := (cellsP (p1, p2)).toArray) (t := 42) (fr := (0, 0)) (heap_alloc_new wr _))
                case e2 => first | exact news_P (p1, p2) | (intro u hu; simp at hu; rcases hu with rfl | rfl <;> rfl) | exact ⟨rfl, rfl⟩ | rfl | simp [Value.oneCell']
                case e3 => unfold maxLen; first | omega | (simp only [List.length_append, List.length_cons, List.length_nil]; omega)
                case e4 => first | omega | (simp only [List.length_append, List.length_cons, List.length_nil] <;> omega)
                case e5 => first | omega | (simp; omega)
                intro v9 w9 hown9 hg9 _
                have ho9 : ownP w9 w3.heap.size v9 ((A) ++ [(p1, p2)]) := ownP_snoc (n := ((A)).length) rfl (by simpa using hown9)
                have hB9 : Below w3.heap.size w3 w9 := hbel.out.trans (((Below.refl w3.heap.size wr).alloc hz9 _).grown hg9 (by simp; omega) (fun k hk => (hO9.out.lt k hk).1))
                clear hg9 hown9 hO9 hA9
                replace ho9 := Lib.hid ho9
                replace hB9 := Lib.hid hB9
                go_wp2
                go_roundw
                case rel => exact ⟨k + 1, A ++ [(p1, p2)], false, by omega, by go_num, rfl, hs2.out, ho9.out, hB9.out⟩
                case measure => simp [intOf]; omega
            · rw [decide_eq_false hlt2] at hless
              have hst1 : rS1 a b (A, false) (p1, p2) = (A ++ [(a, b)], true) := if_pos ⟨rfl, List.not_lt.1 hlt2⟩
              replace hst1 := Lib.hid hst1
              clear hlt2
              have hA8 : (A).length ≤ 203 := by first | omega | (simp only [List.length_append, List.length_cons, List.length_nil]; omega)
              have hi8 := hi.out
              have hO8 := hown.out
              unfold ownP at hO8
              replace hO8 := Lib.hid hO8
              have hz8 := hbel.out.size
              go_wp2_with (first
                | (at_builtin; refine wpList_append_own _ rfl _ _ 27 rfl w3.heap.size 42 i0 (.agg #[.string ByteArray.empty, .string ByteArray.empty]) 2 32 Try.underlying27 hi8 hz0 hz1 hz2 rfl (by decide) _ _ _ rfl (World.ownsRow.alloc hO8.out _) ⟨_, 0, none⟩ 1 1 (cellsP (a, b)) rfl rfl ?d1 ?d2 ?d3 ?d4 ?d5 ?_))
              try (case d1 => exact World.news_of_block (cs := (cellsP (a, b)).toArray) (t := 42) (fr := (0, 0)) (heap_alloc_new wr _))
              case d2 => first | exact news_P (a, b) | (intro u hu; simp at hu; rcases hu with rfl | rfl <;> rfl) | exact ⟨rfl, rfl⟩ | rfl | simp [Value.oneCell']
              case d3 => unfold maxLen; first | omega | (simp only [List.length_append, List.length_cons, List.length_nil]; omega)
              case d4 => first | omega | (simp only [List.length_append, List.length_cons, List.length_nil] <;> omega)
              case d5 => first | omega | (simp; omega)
              intro v8 w8 hown8 hg8 _
              have ho8 : ownP w8 w3.heap.size v8 (A ++ [(a, b)]) := ownP_snoc (n := (A).length) rfl (by simpa using hown8)
              have hB8 : Below w3.heap.size w3 w8 := hbel.out.trans (((Below.refl w3.heap.size wr).alloc hz8 _).grown hg8 (by simp; omega) (fun k hk => (hO8.out.lt k hk).1))
              clear hg8 hown8 hO8 hA8
              replace ho8 := Lib.hid ho8
              replace hB8 := Lib.hid hB8
              clear x0 x1 hvr
              obtain ⟨x0, x1⟩ := cP.grow _ _ _ _ _ hc3 hB8.out
              dsimp only at x0 x1
              have hvr := cell_bel cv hB8.out
              have heq : (p1.toList == a.toList) = decide (nm (p1, p2) = a.data.toList) := by rw [ByteArray.toList_eq, ByteArray.toList_eq, Bool.eq_iff_iff, beq_iff_eq, decide_eq_true_eq]
              by_cases he : nm (p1, p2) = a.data.toList
              · rw [decide_eq_true he] at heq
                have hne : (p1.toList != a.toList) = false := by simp [bne, heq]
                have hs2 : Hid ((L.take (k + 1)).foldl (rStep a b) ([], d0) = (A ++ [(a, b)], true)) := Lib.hid (by rw [hnxt.out]; unfold rStep; rw [if_pos he, hst1.out])
                clear he
                go_wp2
                go_roundw
                case rel => exact ⟨k + 1, A ++ [(a, b)], true, by omega, by go_num, rfl, hs2.out, ho8.out, hB8.out⟩
                case measure => simp [intOf]; omega
              · rw [decide_eq_false he] at heq
                have hne : (p1.toList != a.toList) = true := by simp [bne, heq]
                have hs2 : Hid ((L.take (k + 1)).foldl (rStep a b) ([], d0) = (A ++ [(a, b)] ++ [(p1, p2)], true)) := Lib.hid (by rw [hnxt.out]; unfold rStep; rw [if_neg he, hst1.out])
                clear he
                have hA9 : ((A ++ [(a, b)])).length ≤ 203 := by first | omega | (simp only [List.length_append, List.length_cons, List.length_nil]; omega)
                have hi9 := hi.out
                have hO9 := ho8.out
                unfold ownP at hO9
                replace hO9 := Lib.hid hO9
                have hz9 := hB8.out.size
                go_wp2_with (first
                  | (at_builtin; refine wpList_append_own _ rfl _ _ 27 rfl w3.heap.size 42 i0 (.agg #[.string ByteArray.empty, .string ByteArray.empty]) 2 32 Try.underlying27 hi9 hz0 hz1 hz2 rfl (by decide) _ _ _ rfl (World.ownsRow.alloc hO9.out _) ⟨_, 0, none⟩ 1 1 (cellsP (p1, p2)) rfl rfl ?e1 ?e2 ?e3 ?e4 ?e5 ?_))
                try (case e1 => exact World.news_of_block (cs := (cellsP (p1, p2)).toArray) (t := 42) (fr := (0, 0)) (heap_alloc_new w8 _))
                case e2 => first | exact news_P (p1, p2) | (intro u hu; simp at hu; rcases hu with rfl | rfl <;> rfl) | exact ⟨rfl, rfl⟩ | rfl | simp [Value.oneCell']
                case e3 => unfold maxLen; first | omega | (simp only [List.length_append, List.length_cons, List.length_nil]; omega)
                case e4 => first | omega | (simp only [List.length_append, List.length_cons, List.length_nil] <;> omega)
                case e5 => first | omega | (simp; omega)
                intro v9 w9 hown9 hg9 _
                have ho9 : ownP w9 w3.heap.size v9 ((A ++ [(a, b)]) ++ [(p1, p2)]) := ownP_snoc (n := ((A ++ [(a, b)])).length) rfl (by simpa using hown9)
                have hB9 : Below w3.heap.size w3 w9 := hB8.out.trans (((Below.refl w3.heap.size w8).alloc hz9 _).grown hg9 (by simp; omega) (fun k hk => (hO9.out.lt k hk).1))
                clear hg9 hown9 hO9 hA9
                replace ho9 := Lib.hid ho9
                replace hB9 := Lib.hid hB9
                go_wp2
                go_roundw
                case rel => exact ⟨k + 1, A ++ [(a, b)] ++ [(p1, p2)], true, by omega, by go_num, rfl, hs2.out, ho9.out, hB9.out⟩
                case measure => simp [intOf]; omega
        · skip
          obtain rfl : k = L.length := by omega
          rw [List.take_length] at hst
          have hrf := hfin.out
          rw [hst] at hrf
          have hvr1 := at_below hv1.out hbel
          have hzf := free_at hvr1 0
          have hrb3 := at_lt hvr1
          obtain ⟨aX, cX, rfl⟩ := hown.rd.len
          replace hown := Lib.hid hown
          replace hbel := Lib.hid hbel
          have hAl := hrl.out L.length
          rw [List.take_length, hst] at hAl
          dsimp only at hAl
          clear hst hrl
          cases f with
          | true =>
            have hrA : Hid (L' = A) := Lib.hid hrf.symm
            clear hrf
            have hset := set_at (o := 0) (u := .slice aX A.length cX) hvr1
            have hchg : Chg (fun j => j = rb) wr (wr.setCell ⟨rb, 0, none⟩ (.slice aX A.length cX)) := chg_set (Chg.refl _ _) rfl
            have hrd := hown.out.rd
            have hres : rtO (wr.setCell ⟨rb, 0, none⟩ (.slice aX A.length cX)) rb L' := by
              rw [hrA.out]
              obtain ⟨a9, cap9, e9, hm9, hM9, ha9⟩ := hrd
              refine ⟨(.slice aX A.length cX), hset, a9, cap9, e9, hm9, hM9, fun h0 => ?_⟩
              obtain ⟨b9, o9, e8, hx9⟩ := ha9 h0
              have hne : ¬ b9 = rb := fun e => by
                obtain ⟨y0, y1⟩ := hx9 0 h0
                rw [e] at y1
                have : ∀ o, 0 < o → wr.cell? ⟨rb, o, none⟩ = none := fun o ho => by rw [cell_at hvr1 o]; simp; omega
                rw [this _ (by omega)] at y1
                cases y1
              exact ⟨b9, o9, e8, fun j hj => ⟨cell_chg (hx9 j hj).1 hchg hne, cell_chg (hx9 j hj).2 hchg hne⟩⟩
            have hC : Chg (fun j => j = rb) w (wr.setCell ⟨rb, 0, none⟩ (.slice aX A.length cX)) := (Chg.of_below (hB.out.trans (hbel.out.mono hB.out.size))).more hchg (fun i hi => .inl hi)
            try rw [show (A ++ [(a, b)]).length = A.length + 1 by simp] at hres hC
            replace hres := Lib.hid hres
            replace hC := Lib.hid hC
            clear hset hchg hrd
            go_wp2
            go_ret
            exact ⟨rfl, hres.out, hC.out⟩
          | false =>
            have hrA : Hid (L' = A ++ [(a, b)]) := Lib.hid hrf.symm
            clear hrf
            have hA8 : (A).length ≤ 203 := by first | omega | (simp only [List.length_append, List.length_cons, List.length_nil]; omega)
            have hi8 := hi.out
            have hO8 := hown.out
            unfold ownP at hO8
            replace hO8 := Lib.hid hO8
            have hz8 := hbel.out.size
            go_wp2_with (first
              | (at_builtin; refine wpList_append_own _ rfl _ _ 27 rfl w3.heap.size 42 i0 (.agg #[.string ByteArray.empty, .string ByteArray.empty]) 2 32 Try.underlying27 hi8 hz0 hz1 hz2 rfl (by decide) _ _ _ rfl (World.ownsRow.alloc hO8.out _) ⟨_, 0, none⟩ 1 1 (cellsP (a, b)) rfl rfl ?d1 ?d2 ?d3 ?d4 ?d5 ?_))
            try (case d1 => exact World.news_of_block (cs := (cellsP (a, b)).toArray) (t := 42) (fr := (0, 0)) (heap_alloc_new wr _))
            case d2 => first | exact news_P (a, b) | (intro u hu; simp at hu; rcases hu with rfl | rfl <;> rfl) | exact ⟨rfl, rfl⟩ | rfl | simp [Value.oneCell']
            case d3 => unfold maxLen; first | omega | (simp only [List.length_append, List.length_cons, List.length_nil]; omega)
            case d4 => first | omega | (simp only [List.length_append, List.length_cons, List.length_nil] <;> omega)
            case d5 => first | omega | (simp; omega)
            intro v8 w8 hown8 hg8 _
            have ho8 : ownP w8 w3.heap.size v8 (A ++ [(a, b)]) := ownP_snoc (n := (A).length) rfl (by simpa using hown8)
            have hB8 : Below w3.heap.size w3 w8 := hbel.out.trans (((Below.refl w3.heap.size wr).alloc hz8 _).grown hg8 (by simp; omega) (fun k hk => (hO8.out.lt k hk).1))
            clear hg8 hown8 hO8 hA8
            replace ho8 := Lib.hid ho8
            replace hB8 := Lib.hid hB8
            obtain ⟨aY, cY, rfl⟩ := ho8.out.rd.len
            clear hvr hvr1 hzf
            have hvr := cell_bel cv hB8.out
            have hvr1 := at_below hv1.out hB8.out
            have hzf := free_at hvr1 0
            have hset := set_at (o := 0) (u := .slice aY (A ++ [(a, b)]).length cY) hvr1
            have hchg : Chg (fun j => j = rb) w8 (w8.setCell ⟨rb, 0, none⟩ (.slice aY (A ++ [(a, b)]).length cY)) := chg_set (Chg.refl _ _) rfl
            have hrd := ho8.out.rd
            have hres : rtO (w8.setCell ⟨rb, 0, none⟩ (.slice aY (A ++ [(a, b)]).length cY)) rb L' := by
              rw [hrA.out]
              obtain ⟨a9, cap9, e9, hm9, hM9, ha9⟩ := hrd
              refine ⟨(.slice aY (A ++ [(a, b)]).length cY), hset, a9, cap9, e9, hm9, hM9, fun h0 => ?_⟩
              obtain ⟨b9, o9, e8, hx9⟩ := ha9 h0
              have hne : ¬ b9 = rb := fun e => by
                obtain ⟨y0, y1⟩ := hx9 0 h0
                rw [e] at y1
                have : ∀ o, 0 < o → w8.cell? ⟨rb, o, none⟩ = none := fun o ho => by rw [cell_at hvr1 o]; simp; omega
                rw [this _ (by omega)] at y1
                cases y1
              exact ⟨b9, o9, e8, fun j hj => ⟨cell_chg (hx9 j hj).1 hchg hne, cell_chg (hx9 j hj).2 hchg hne⟩⟩
            have hC : Chg (fun j => j = rb) w (w8.setCell ⟨rb, 0, none⟩ (.slice aY (A ++ [(a, b)]).length cY)) := (Chg.of_below (hB.out.trans (hB8.out.mono hB.out.size))).more hchg (fun i hi => .inl hi)
            try rw [show (A ++ [(a, b)]).length = A.length + 1 by simp] at hres hC
            replace hres := Lib.hid hres
            replace hC := Lib.hid hC
            clear hset hchg hrd
            go_wp2
            go_ret
            exact ⟨rfl, hres.out, hC.out⟩
end Go.Proofs.Ytbmldiklgkojnaa
