/- Contracts: a vote cut short, entries by number, no votes at all; a slice of votes opened. -/
import Derived.Test.YtacchkmdheglaaaVtF
namespace Go.Proofs.Ytacchkmdheglaaa
open Go.ChangeShapes Go.WideShapes Go.ChangeAt Go.RowKit
set_option linter.unusedVariables false

def cutV (x : Vt) : Vt := { x with lg := mapCut x.lg (min 12 x.lg.length) }

set_option maxRecDepth 100000 in
set_option maxHeartbeats 1000000 in
theorem cut20_any (x : Vt) (s : Value) (w : World) (hs : rdE w s x.lg) (hd : ∀ e ∈ x.lg, e.data.size ≤ 9223372036854775807) :
    Calls Try.prog 21 #[x.val s] w fun r w' => ∃ s', r = .returned ((cutV x).val s') ∧ ownE w' w.heap.size 67 s' (cutV x).lg ∧ Below w.heap.size w w' := by
  obtain ⟨xf, xl, xg, xc⟩ := x
  dsimp only at hs hd
  obtain ⟨sa, sc, rfl⟩ := hs.len
  simp only [Vt.val, cutV]
  obtain ⟨W1, hW1⟩ : ∃ W, W = (w.alloc (boxV xf xl (.slice sa xg.length sc) xc 47)).alloc (boxV 0 0 (.slice none 0 0) 0 47) := ⟨_, rfl⟩
  have hB1 : Below w.heap.size w W1 := hW1 ▸ ((Below.refl _ _).alloc (Nat.le_refl _) _).alloc (by simp) _
  have hx1 : W1.heap[w.heap.size]? = some (boxV xf xl (.slice sa xg.length sc) xc 47) := hW1 ▸ at_old _ (at_new _ _)
  have hy1 : W1.heap[w.heap.size + 1]? = some (boxV 0 0 (.slice none 0 0) 0 47) := by
    have := at_new (w.alloc (boxV xf xl (.slice sa xg.length sc) xc 47)) (boxV 0 0 (.slice none 0 0) 0 47)
    rw [← hW1] at this
    simpa using this
  have hs1 := hs.grow hB1
  have f2 := cell_at hx1 2
  simp only [List.getElem?_toArray, List.getElem?_cons_zero, List.getElem?_cons_succ] at f2
  replace hs := Lib.hid hs
  replace hs1 := Lib.hid hs1
  replace hd := Lib.hid hd
  replace hx1 := Lib.hid hx1
  replace hy1 := Lib.hid hy1
  replace hB1 := Lib.hid hB1
  obtain ⟨nb, hnb⟩ : ∃ nb, nb = w.heap.size := ⟨_, rfl⟩
  rw [← hnb] at hx1 hy1 f2
  go_enter Try.func21, Try.ntmps21
  go_upto_region 1 with (fail)
  rw [← hW1, ← hnb]
  clear hW1
  replace hnb := Lib.hid hnb
  go_wp2_with fail
  refine (entries12_any _ xg 12 _ hs1.out hd.out (by omega) (by omega)).mono ?_
  rintro r w2 ⟨s', rfl, ho, hb2⟩
  have hlen : (mapCut xg (min (Int.toNat 12) xg.length)).length = min 12 xg.length := mapCut_len _ _ (by simp; omega)
  rw [show (Int.toNat 12) = 12 from rfl] at ho hlen
  obtain ⟨E, hE⟩ : ∃ E, mapCut xg (min 12 xg.length) = E := ⟨_, rfl⟩
  rw [hE] at ho hlen
  replace hE := Lib.hid hE
  obtain ⟨ta, tc, rfl⟩ := ho.rd.len
  have hx2 := at_below hx1.out hb2
  have hy2 := at_below hy1.out hb2
  have hB2 := hB1.out.trans (hb2.mono hB1.out.size)
  clear f2
  have f0 := cell_at hx2 0
  have f1 := cell_at hx2 1
  have f2 := cell_at hx2 2
  have f3 := cell_at hx2 3
  have g0 := cell_at hy2 0
  have g1 := cell_at hy2 1
  have g2 := cell_at hy2 2
  have g3 := cell_at hy2 3
  have z2 := free_at hx2 2
  have t0 := free_at hy2 0
  have t1 := free_at hy2 1
  have t2 := free_at hy2 2
  have t3 := free_at hy2 3
  simp only [List.getElem?_toArray, List.getElem?_cons_zero, List.getElem?_cons_succ] at f0 f1 f2 f3 g0 g1 g2 g3
  have hl2 := at_lt hy2
  have hl1 := at_lt hx2
  have hfin : ∀ a b c d e, ownE (((((w2.setCell ⟨nb, 2, none⟩ a).setCell ⟨nb + 1, 0, none⟩ b).setCell ⟨nb + 1, 1, none⟩ c).setCell ⟨nb + 1, 2, none⟩ d).setCell ⟨nb + 1, 3, none⟩ e) w.heap.size 67 (.slice ta E.length tc) E ∧
      Below w.heap.size w (((((w2.setCell ⟨nb, 2, none⟩ a).setCell ⟨nb + 1, 0, none⟩ b).setCell ⟨nb + 1, 1, none⟩ c).setCell ⟨nb + 1, 2, none⟩ d).setCell ⟨nb + 1, 3, none⟩ e) := by
    intro a b c d e
    have hF : Chg (fun k => k = nb ∨ k = nb + 1) w2 (((((w2.setCell ⟨nb, 2, none⟩ a).setCell ⟨nb + 1, 0, none⟩ b).setCell ⟨nb + 1, 1, none⟩ c).setCell ⟨nb + 1, 2, none⟩ d).setCell ⟨nb + 1, 3, none⟩ e) :=
      chg_set (chg_set (chg_set (chg_set (chg_set (Chg.refl _ _) (.inl rfl)) (.inr rfl)) (.inr rfl)) (.inr rfl)) (.inr rfl)
    have h1 := hnb.out
    have h2 := at_lt hy1.out
    refine ⟨ownE_base (ho.chg hF fun k hk => ?_) hB1.out.size, hB2.trans (hF.below hB2.size fun k hk => by rcases hk with rfl | rfl <;> omega)⟩
    have := (ho.lt k hk).1
    rintro (rfl | rfl) <;> omega
  clear ho hB2 hb2
  replace hfin := Lib.hid hfin
  replace hx2 := Lib.hid hx2
  replace hy2 := Lib.hid hy2
  replace hlen := Lib.hid hlen
  go_wp2
  exact bodyPost_ret (v := .agg #[.int .i64 xf, .int .i64 xl, .slice ta E.length tc, .int .i64 xc]) (by simp [results, Try.results21, go_sem, hl2, g0, g1, g2, g3]) rfl ⟨_, rfl, by rw [hE.out]; exact hfin.out _ _ _ _ _⟩

/-- entries by number -/
def numE (i : Nat) : Ent := ⟨1, 1, (i : Int) + 1, 0, 0, 0, ⟨#[]⟩⟩
def logN (n : Nat) : List Ent := (List.range n).map numE
theorem logN_len (n : Nat) : (logN n).length = n := by simp [logN]
theorem logN_snoc (n : Nat) : logN (n + 1) = logN n ++ [numE n] := by simp [logN, List.range_succ]

set_option maxRecDepth 100000 in
set_option maxHeartbeats 1000000 in
theorem logOf_any (N : Nat) (w : World) (hN : N ≤ 1000) :
    Calls Try.prog 34 #[.int .i64 (N : Int)] w fun r w' => ∃ v', r = .returned v' ∧ ownE w' w.heap.size 67 v' (logN N) ∧ Below w.heap.size w w' := by
  obtain ⟨i0, hi, hz0, hz1, hz2⟩ := info_parts infoEnt
  go_enter Try.func34, Try.ntmps34
  go_wp2
  go_loopw [3, 4] (fun r i wr => ∃ k : Nat, k ≤ N ∧ i = .int .i64 k ∧ ownE wr w.heap.size 67 r (logN k) ∧ Below w.heap.size w wr) (fun _ i _ => N - (intOf i).toNat)
  case atStart => exact ⟨0, Nat.zero_le _, rfl, World.ownsRow_nil _ _ _ _, Below.refl _ _⟩
  case round =>
    obtain ⟨k, hk, rfl, hown, hbel⟩ := hrel
    have hlen := logN_len k
    replace hlen := Lib.hid hlen
    have hsz := hbel.size
    by_cases hlt : k < N
    · go_wp2_with (first
        | (at_builtin; refine wpList_append_own _ rfl _ _ 28 rfl w.heap.size 67 i0 (Ent.val ⟨0, 0, 0, 0, 0, 0, ByteArray.empty⟩) 7 64 Try.underlying28 hi hz0 hz1 hz2 rfl (by decide) _ _ _ rfl (World.ownsRow.alloc hown _) ⟨_, 0, none⟩ 1 1 (numE k).cells rfl rfl ?c1 ?c2 ?c3 ?c4 ?c5 ?_))
      case c1 => exact news_cells wr (numE k) _ _ rfl
      case c2 => exact news_one _
      case c3 => rw [hlen.out]; unfold maxLen; omega
      case c4 => rw [hlen.out]; omega
      case c5 => simp; omega
      intro v' w2 hown' hgrow _
      have ho : ownE w2 w.heap.size 67 v' (logN (k + 1)) := by
        rw [logN_snoc, ownE, List.length_append, flatE_snoc]; exact hown'
      have hb2 : Below w.heap.size w w2 := (hbel.alloc hsz _).grown hgrow (by simp; omega) (fun k hk => (hown.lt k hk).1)
      clear hown' hgrow hown hbel
      go_wp2
      go_roundw
      case rel => exact ⟨k + 1, by omega, by go_num, ho, hb2⟩
      case measure => simp [intOf]; omega
    · obtain rfl : k = N := by omega
      go_wp2
      go_ret
      exact ⟨_, rfl, hown, hbel⟩

set_option maxRecDepth 100000 in
theorem vView_nil (w : World) : Calls Try.prog 30 #[.pointer none] w fun r w' => r = .returned (.int .i64 0) ∧ w = w' := by
  go_enter Try.func30, Try.ntmps30
  go_wp2
  go_ret
  exact ⟨rfl, rfl⟩
set_option maxRecDepth 100000 in
theorem vTeam_nil (w : World) : Calls Try.prog 26 #[.pointer none] w fun r w' => r = .returned (.int .i64 0) ∧ w = w' := by
  go_enter Try.func26, Try.ntmps26
  go_wp2
  go_ret
  exact ⟨rfl, rfl⟩
set_option maxRecDepth 100000 in
theorem vEnough_nil (w : World) : Calls Try.prog 28 #[.pointer none] w fun r w' => r = .returned (.bool false) ∧ Below w.heap.size w w' := by
  go_enter Try.func28, Try.ntmps28
  go_upto_region 1 with (fail)
  refine wp_region_up (by kernel_rfl) (by kernel_rfl) ?_
  repeat (go_big_quiet_step (fail))
  refine wpQuiet_nil ?_
  intro w2 hw2
  have hb2 := up_below hw2
  clear hw2
  go_wp2
  go_ret
  exact ⟨rfl, hb2⟩
set_option maxRecDepth 100000 in
set_option maxHeartbeats 400000 in
theorem vAdd_nil (x : Vt) (sa : Option Addr) (n sc : Nat) (w : World) : Calls Try.prog 22 #[.pointer none, x.val (.slice sa n sc)] w fun r w' => r = .returned (.bool false) ∧ Below w.heap.size w w' := by
  obtain ⟨xf, xl, xg, xc⟩ := x
  simp only [Vt.val]
  have hb1 : ∀ o, Below w.heap.size w (w.alloc o) := fun o => (Below.refl _ _).alloc (Nat.le_refl _) o
  replace hb1 := Lib.hid hb1
  go_enter Try.func22, Try.ntmps22
  go_upto_region 1 with (fail)
  refine wp_region_up (by kernel_rfl) (by kernel_rfl) ?_
  repeat (go_big_quiet_step (fail))
  refine wpQuiet_nil ?_
  intro w2 hw2
  have hb2 := (hb1.out _).trans ((up_below hw2).mono (hb1.out _).size)
  clear hw2
  go_wp2
  go_ret
  exact ⟨rfl, hb2⟩
set_option maxRecDepth 100000 in
set_option maxHeartbeats 400000 in
theorem vBest_nil (w : World) : Calls Try.prog 24 #[.pointer none] w fun r w' => r = .returned (.tuple #[.agg #[.int .i64 0, .int .i64 0, .slice none 0 0, .int .i64 0], .bool false]) ∧ Below w.heap.size w w' := by
  have hb1 : Below w.heap.size w (w.alloc (boxV 0 0 (.slice none 0 0) 0 47)) := (Below.refl _ _).alloc (Nat.le_refl _) _
  replace hb1 := Lib.hid hb1
  go_enter Try.func24, Try.ntmps24
  go_wp2_with fail
  refine (vEnough_nil _).mono ?_
  rintro r w2 ⟨rfl, hb2⟩
  obtain ⟨hc, hf⟩ := bcell hb2
  have hz : w.heap.size < w2.heap.size := by have := hb2.size; simp at this; omega
  go_wp2
  exact bodyPost_ret (v := .tuple #[.agg #[.int .i64 0, .int .i64 0, .slice none 0 0, .int .i64 0], .bool false]) (by simp [results, Try.results24, go_sem, hc, hz]) rfl ⟨rfl, (((((hb1.out.trans (hb2.mono hb1.out.size))).setCell (Nat.le_refl _) _).setCell (Nat.le_refl _) _).setCell (Nat.le_refl _) _).setCell (Nat.le_refl _) _⟩

/-- a vote that came in -/
def cVtI (w : World) (b o : Nat) (x : VtS) : Prop := cVt w b o x ∧ ∀ e ∈ x.v.lg, e.data.size ≤ 9223372036854775807
theorem cVtI.grow (w w' : World) (b o : Nat) (x : VtS) (h : cVtI w b o x) (hb : Below w.heap.size w w') : cVtI w' b o x := ⟨cVt.grow _ _ _ _ _ h.1 hb, h.2⟩
theorem voteF0 : fieldOf1 Try.prog (fieldsOf Try.prog 47) 0 isI64d = true := by kernel_rfl
theorem voteF1 : fieldOf1 Try.prog (fieldsOf Try.prog 47) 1 isI64d = true := by kernel_rfl
theorem voteF2 : fieldOf1 Try.prog (fieldsOf Try.prog 47) 2 (isSl 67) = true := by kernel_rfl
theorem voteF3 : fieldOf1 Try.prog (fieldsOf Try.prog 47) 3 isI64d = true := by kernel_rfl
theorem slvote_open {H : Type} {enc : TypeId × Value → H} {W : World} {base : Nat} {v : Value} {d : DataW H} {ps : List MemPlace}
    (hok : Value.okWide Try.prog W .any base 39 v) (h : DataW.Trod enc Try.prog W 0 (fun _ => true) true 39 v d ps) : ∃ l, rdS 4 cVtI W v l ∧ True := by
  obtain ⟨a0, len0, cap0, rfl⟩ := okWide_slice Try.underlying39 hok
  obtain ⟨fuel, hf⟩ := h
  obtain ⟨v, l, hcs, hr⟩ := rdS_openG (C := cVtI) (size := 4) (by omega) (fs := fieldsOf Try.prog 47) Try.underlying39 (by kernel_rfl) (by kernel_rfl) (fun n b off cs' xs hlen hcell hxl hfl => by
    obtain ⟨f0, a1, a2, a3, u0, a4, a5⟩ := fieldOf1_spec voteF0
    obtain ⟨z0, b1, b2⟩ := fint_at hxl hfl a1 a2 a3 (by rw [a4, isI64d_spec a5]) (by omega)
    obtain ⟨f1, c1, c2, c3, u1, c4, c5⟩ := fieldOf1_spec voteF1
    obtain ⟨z1, d1, d2⟩ := fint_at hxl hfl c1 c2 c3 (by rw [c4, isI64d_spec c5]) (by omega)
    obtain ⟨f3, k1, k2, k3, u3, k4, k5⟩ := fieldOf1_spec voteF3
    obtain ⟨z3, m1, m2⟩ := fint_at hxl hfl k1 k2 k3 (by rw [k4, isI64d_spec k5]) (by omega)
    obtain ⟨f2, e1, e2, e3, u2, e4, e5⟩ := fieldOf1_spec voteF2
    obtain ⟨v, x, g1, g2⟩ := fany_at hxl hfl e1 e2 e3 (by omega)
    obtain ⟨v', es, g3, g4, g5⟩ := rdE_openG entT (by rw [e4, isSl_spec e5]) g2
    simp at g3; subst g3
    exact ⟨⟨⟨z0, z1, es, z3⟩, v⟩, ⟨hcell 0 _ b1, hcell 1 _ d1, hcell 2 _ g1, hcell 3 _ m1, g4⟩, g5⟩) hf
  simp [Value.cells] at hcs
  subst hcs
  exact ⟨l, hr, trivial⟩
end Go.Proofs.Ytacchkmdheglaaa
