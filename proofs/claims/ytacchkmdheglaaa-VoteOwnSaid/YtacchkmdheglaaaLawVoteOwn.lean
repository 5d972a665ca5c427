/- What was voted, and what is told, is nobody else's: for all lists; no condition. -/
import Derived.Test.YtacchkmdheglaaaVtG
import Derived.Test.YtacchkmdheglaaaPutQ
namespace Go.Proofs.Ytacchkmdheglaaa.lawVoteOwn
open Go.ChangeShapes Go.WideShapes Go.ChangeAt Go.RowKit
set_option linter.unusedVariables false

/-- a row that may be written -/
def mutR (w : World) (a : Option Addr) (n : Nat) : Prop := 0 < n → ∃ g off, a = some ⟨g, off, none⟩ ∧ ∃ cur E, w.heap[g]? = some (.cells cur E (0, 0)) ∧ off + n * 7 ≤ cur.size
theorem mutR.cell {w : World} {g off n : Nat} (h : mutR w (some ⟨g, off, none⟩) n) {i c : Nat} (hi : i < n) (hc : c < 7) :
    (∃ u, w.cell? ⟨g, off + i * 7 + c, none⟩ = some u) ∧ w.frozen? ⟨g, off + i * 7 + c, none⟩ = false := by
  obtain ⟨g', off', e, cur, E, hg, hs⟩ := h (by omega)
  injection e with e; injection e with e1 e2; subst e1 e2
  refine ⟨⟨cur[off + i * 7 + c]'(by omega), ?_⟩, free_at hg _⟩
  rw [cell_at hg, Array.getElem?_eq_getElem (by omega)]
theorem mutR.set {w : World} {g off n : Nat} (h : mutR w (some ⟨g, off, none⟩) n) (o : Nat) (u : Value) : mutR (w.setCell ⟨g, o, none⟩ u) (some ⟨g, off, none⟩) n := fun h0 => by
  obtain ⟨g', off', e, cur, E, hg, hs⟩ := h h0
  injection e with e; injection e with e1 e2; subst e1 e2
  exact ⟨g, off, rfl, _, E, set_at hg, by simpa using hs⟩
theorem mut_of {w : World} {B : Nat} {E : TypeId} {a : Option Addr} {n cap : Nat} {l : List Ent} (h : ownE w B E (.slice a n cap) l) : mutR w a n := by
  intro h0
  obtain ⟨hl, ⟨e, h1⟩ | ⟨g, c, cur, e, hb, hg, hn, hc, hs, ht⟩⟩ := h
  · injection e with e1 e2 e3; omega
  · injection e with e1 e2 e3
    exact ⟨g, 0, e1, cur, E, hg, by rw [hs, e2]; omega⟩
theorem mutR.below {w w' : World} {a : Option Addr} {n : Nat} (h : mutR w a n) (hb : Below w.heap.size w w') : mutR w' a n := fun h0 => by
  obtain ⟨g, off, e, cur, E, hg, hs⟩ := h h0
  exact ⟨g, off, e, cur, E, at_below hg hb, hs⟩
theorem VSt_setlow {T TV : TypeId} {A : Nat → Prop} {w wr : World} {b : Nat} {view n : Int} {l : List VtS} (h : VSt T TV A w wr b view n l) {g : Nat} (hg : g < w.heap.size) (o : Nat) (u : Value) :
    VSt T TV A w (wr.setCell ⟨g, o, none⟩ u) b view n l := by
  obtain ⟨F, D, h1, h3, h2⟩ := h
  have hc : Chg (fun k => k = g) wr (wr.setCell ⟨g, o, none⟩ u) := chg_set (Chg.refl _ _) rfl
  exact ⟨F, D, fun k hk => ⟨(h1 k hk).1, by rw [World.size_setCell]; exact (h1 k hk).2⟩, fun k hk => ⟨(h3 k hk).1, by rw [World.size_setCell]; exact (h3 k hk).2⟩,
    h2.chg hc (fun k hk e => by have := (h1 k (.inl hk)).1; omega) (fun k hk e => by have := (h1 k (.inr hk)).1; omega)⟩

/-- what lasts while the first row is written -/
structure StW (A : Nat → Prop) (w w4 wr : World) (b : Nat) (l : List VtS) (W : List Ent) (va : Value) (a : Option Addr) (n : Nat) : Prop where
  vs : VSt 78 47 A w4 wr b 9 3 l
  row : mutR wr a n
  rd : rdE wr va W
  ap : ∀ g o, a = some ⟨g, o, none⟩ → g < w4.heap.size ∧ va.ownBlock ≠ some g ∧ w.heap.size ≤ g
  bel : Below w.heap.size w wr
theorem StW.set {A : Nat → Prop} {w w4 wr : World} {b : Nat} {l : List VtS} {W : List Ent} {va : Value} {g off n : Nat} (h : StW A w w4 wr b l W va (some ⟨g, off, none⟩) n) (o : Nat) (u : Value) :
    StW A w w4 (wr.setCell ⟨g, o, none⟩ u) b l W va (some ⟨g, off, none⟩) n := by
  obtain ⟨h1, h2, h3, h4, h5⟩ := h
  obtain ⟨hg, hv, hw⟩ := h4 g off rfl
  exact ⟨VSt_setlow h1 hg o u, h2.set o u, h3.chg (chg_set (F := fun k => k = g) (Chg.refl _ _) rfl) (fun k hk e => hv (e ▸ hk)), h4, h5.setCell hw u⟩

theorem ok_one {W : List Ent} (h : good W) : okV 9 3 [] ⟨1, 0, W, 0⟩ = true := by
  unfold okV
  rw [show teamV [] = 0 from rfl, has_zero]
  simp [logE_good h]
theorem ok_two {W : List Ent} {s : Value} : okV 9 3 [⟨⟨1, 0, W, 0⟩, s⟩] ⟨2, 0, [], 0⟩ = true := by
  kernel_rfl
theorem team_two {W : List Ent} {s t : Value} : mostT (teamV [⟨⟨1, 0, W, 0⟩, s⟩, ⟨⟨2, 0, [], 0⟩, t⟩] : Nat) 3 = true := by
  kernel_rfl
theorem best_two {W : List Ent} {s t : Value} : bestTo ⟨⟨1, 0, W, 0⟩, s⟩ [⟨⟨1, 0, W, 0⟩, s⟩, ⟨⟨2, 0, [], 0⟩, t⟩] = ⟨⟨1, 0, W, 0⟩, s⟩ := by
  have e1 : betterV ⟨1, 0, W, 0⟩ ⟨1, 0, W, 0⟩ = false := by simp [betterV]
  have e2 : betterV ⟨2, 0, [], 0⟩ ⟨1, 0, W, 0⟩ = false := by
    unfold betterV
    cases W <;> simp
  simp [bestTo, e1, e2]
theorem com_two {W : List Ent} {s t : Value} : comTo [⟨⟨1, 0, W, 0⟩, s⟩, ⟨⟨2, 0, [], 0⟩, t⟩] = 0 := by simp [comTo]

set_option maxRecDepth 100000 in
set_option maxHeartbeats 8000000 in
theorem walk (v : Value) (l : List Ent) (w : World) (hr : rdE w v l) (hd : ∀ e ∈ l, e.data.size ≤ 9223372036854775807) :
    Calls Try.prog 8 #[v] w fun e w' => e = .returned (.bool true) ∧ Below w.heap.size w w' := by
  obtain ⟨i0, hi, hz0, hz1, hz2⟩ := info_parts infoEnt
  replace hi := Lib.hid hi
  replace hr := Lib.hid hr
  replace hd := Lib.hid hd
  go_enter Try.func8, Try.ntmps8
  go_wp2_with fail
  refine (b20_any _).mono ?_
  rintro e w1 ⟨rfl, hb1⟩
  go_wp2_with fail
  refine (entries12_any _ l 8 _ (hr.out.grow hb1) hd.out (by omega) (by omega)).mono ?_
  rintro e w2 ⟨x1, rfl, ho1, hb2⟩
  have hB2 := hb1.trans (hb2.mono hb1.size)
  clear hb1 hb2 hd hr
  generalize mapCut l _ = A at ho1
  have R1 := Lib.hid ho1.rd
  clear ho1
  go_wp2_with fail
  refine (r12Log_any _ A _ R1.out).mono ?_
  rintro r w3 ⟨va, rfl, ho3, hb3⟩
  have hB3 := hB2.trans (hb3.mono hB2.size)
  have hgo := good_logE A
  have h60 := logE_len A
  generalize logE A = W at ho3 hgo h60
  have ho3 := Lib.hid (ownE_base ho3 hB2.size)
  clear hB2 hb3 R1
  have hB3' := Lib.hid hB3
  have hfl := Lib.hid (flatE_len W)
  replace hgo := Lib.hid hgo
  clear hB3
  go_wp2_with (at_builtin; refine wpList_app _ rfl _ _ _ rfl w3.heap.size w.heap.size 67 i0 _ 7 64 Try.underlying28 hi.out hz0 hz1 hz2 rfl (by omega) (.slice none 0 0) 0 [] rfl (World.ownsRow_nil _ _ _ _) _ W.length (flatE W) rfl ho3.out (flatE_one W) (by unfold maxLen; omega) (by omega) (Nat.le_refl _) ?_)
  intro own w4 ho4 hg4 hat4
  have hb4 : Below w3.heap.size w3 w4 := (Below.refl _ _).grown hg4 (Nat.le_refl _) (fun k hk => by cases hk)
  try simp only [Nat.zero_add, List.nil_append] at ho4
  have ho4 : ownE w4 w3.heap.size 67 own W := ho4
  clear hg4 hat4
  obtain ⟨ao, co, rfl⟩ := ho4.rd.len
  have hmut := Lib.hid (mut_of ho4)
  have hoB : Hid (∀ g o, ao = some ⟨g, o, none⟩ → w3.heap.size ≤ g ∧ g < w4.heap.size) := Lib.hid fun g o e => ho4.lt g (by rw [e]; rfl)
  have Ro := Lib.hid ho4.rd
  have Ra := Lib.hid (ho3.out.rd.grow hb4)
  have hvl : Hid (∀ k, va.ownBlock = some k → k < w3.heap.size) := Lib.hid fun k hk => (ho3.out.lt k hk).2
  have hB4 := Lib.hid (hB3'.out.trans (hb4.mono hB3'.out.size))
  have hsz34 := hb4.size
  have hsz03 := hB3'.out.size
  obtain ⟨aW, cW, rfl⟩ := ho3.out.rd.len
  clear ho3 ho4 hb4 hB3'
  go_wp2_with fail
  refine (vNew_st 9 3 _ (by omega) (by omega) (by decide)).mono ?_
  rintro r w5 ⟨b, rfl, hS, hb5⟩
  have Ro5 := Lib.hid (Ro.out.grow hb5)
  replace hS := Lib.hid hS
  replace hb5 := Lib.hid hb5
  go_wp2_with fail
  refine (vAdd_st b 9 3 [] ⟨1, 0, W, 0⟩ _ _ w4 _ hS.out hb5.out.size Ro5.out (by simp)).mono ?_
  rintro r w6 ⟨rfl, l6, hS6, hm6, hc6⟩
  rw [ok_one hgo.out] at hm6
  obtain ⟨s1, rfl⟩ := map_one (by simpa using hm6)
  have hb6 := Lib.hid (hb5.out.trans (hc6.below hb5.out.size fun k hk => hk.1))
  replace hS6 := Lib.hid hS6
  clear hm6 hc6 hS hb5 Ro5
  go_wp2_with fail
  refine (vAdd_st b 9 3 _ ⟨2, 0, [], 0⟩ (.slice none 0 0) _ w4 _ hS6.out hb6.out.size (rdE_nil0 _ _ _ (by decide)) (by simp)).mono ?_
  rintro r w7 ⟨rfl, l7, hS7, hm7, hc7⟩
  rw [ok_two] at hm7
  obtain ⟨s2, s3, rfl⟩ := map_two (by simpa using hm7)
  have hb7 := hb6.out.trans (hc7.below hb6.out.size fun k hk => hk.1)
  have hSt : StW (fun k => k < w4.heap.size) w w4 w7 b [⟨⟨1, 0, W, 0⟩, s2⟩, ⟨⟨2, 0, [], 0⟩, s3⟩] W (.slice aW W.length cW) ao W.length :=
    ⟨hS7, hmut.out.below hb7, Ra.out.grow hb7, fun g o e => by
      obtain ⟨h1, h2⟩ := hoB.out g o e
      exact ⟨h2, fun e => by have := hvl.out g e; omega, by omega⟩, hB4.out.trans (hb7.mono hB4.out.size)⟩
  have hw47 := hb7.size
  clear hm7 hc7 hS6 hb6 hb7 hS7 Ro Ra hmut hoB hvl hB4
  replace hSt := Lib.hid hSt
  have hmost := Lib.hid (team_two (W := W) (s := s2) (t := s3))
  have hbest := Lib.hid (best_two (W := W) (s := s2) (t := s3))
  have hcom := Lib.hid (com_two (W := W) (s := s2) (t := s3))
  go_wp2
  go_loopw [7] (fun i wr => ∃ k : Nat, k ≤ W.length ∧ i = .int .i64 k ∧ StW (fun k => k < w4.heap.size) w w4 wr b [⟨⟨1, 0, W, 0⟩, s2⟩, ⟨⟨2, 0, [], 0⟩, s3⟩] W (.slice aW W.length cW) ao W.length) (fun i _ => W.length - (intOf i).toNat)
  case atStart => exact ⟨0, Nat.zero_le _, rfl, hSt.out⟩
  case round =>
    obtain ⟨k, hk, rfl, hst⟩ := hrel
    clear hSt
    by_cases hlt : k < W.length
    · obtain ⟨g, off, rfl, _⟩ := hst.row (by omega)
      obtain ⟨⟨u, hcell⟩, hfz⟩ := hst.row.cell hlt (c := 2) (by omega)
      have hS := hst.set (off + k * 7 + 2) (.int .i64 77)
      replace hst := Lib.hid hst
      replace hS := Lib.hid hS
      go_wp2
      go_roundw
      case rel => exact ⟨k + 1, by omega, by go_num, hS.out⟩
      case measure => simp [intOf]; omega
    · replace hst := Lib.hid hst
      go_wp2_with fail
      refine (vBest_yes b 9 3 _ _ _ _ _ hst.out.vs.rd hmost.out (by simp) (by simp; omega) rfl hbest.out hcom.out).mono ?_
      rintro r w8 ⟨s', rfl, ho8, hb8⟩
      dsimp only at ho8
      obtain ⟨ta, tc, rfl⟩ := ho8.rd.len
      have hmin : min (0 : Int) (W.length : Int) = 0 := by omega
      dsimp only
      rw [hmin]
      clear hmin
      have hmut8 := (mut_of ho8).below (w' := w8.alloc (boxV 1 0 (.slice ta W.length tc) 0 47)) ((Below.refl _ _).alloc (Nat.le_refl _) _)
      have hta : Hid (∀ g o, ta = some ⟨g, o, none⟩ → wr.heap.size ≤ g ∧ g < w8.heap.size) := Lib.hid fun g o e => ho8.lt g (by rw [e]; rfl)
      have hx9 := at_new w8 (boxV 1 0 (.slice ta W.length tc) 0 47)
      have hb9 : Below wr.heap.size wr (w8.alloc (boxV 1 0 (.slice ta W.length tc) 0 47)) := hb8.alloc hb8.size _
      have hsz8 := hb8.size
      clear ho8 hb8
      replace hmut8 := Lib.hid hmut8
      replace hx9 := Lib.hid hx9
      replace hb9 := Lib.hid hb9
      go_wp2
      go_loopw [10] (fun i wq => ∃ k : Nat, k ≤ W.length ∧ i = .int .i64 k ∧ mutR wq ta W.length ∧ wq.heap[w8.heap.size]? = some (boxV 1 0 (.slice ta W.length tc) 0 47) ∧ Below wr.heap.size wr wq) (fun i _ => W.length - (intOf i).toNat)
      case atStart => exact ⟨0, Nat.zero_le _, rfl, hmut8.out, hx9.out, hb9.out⟩
      case round =>
        obtain ⟨j, hj, rfl, hm, hx, hbq⟩ := hrel
        have e2 := cell_at hx 2
        simp only [List.getElem?_toArray, List.getElem?_cons_zero, List.getElem?_cons_succ] at e2
        clear hmut8 hx9 hb9
        by_cases hlj : j < W.length
        · obtain ⟨g, off, rfl, _⟩ := hm (by omega)
          obtain ⟨⟨u, hcell⟩, hfz⟩ := hm.cell hlj (c := 2) (by omega)
          obtain ⟨hg1, hg2⟩ := hta.out g off rfl
          have hm2 := Lib.hid (hm.set (off + j * 7 + 2) (.int .i64 78))
          have hx2 := Lib.hid (set_far (g := g) (o := off + j * 7 + 2) (u := .int .i64 78) hx (by omega))
          have hbq2 := Lib.hid (hbq.setCell (p := ⟨g, off + j * 7 + 2, none⟩) hg1 (.int .i64 78))
          replace hm := Lib.hid hm
          replace hx := Lib.hid hx
          replace hbq := Lib.hid hbq
          go_wp2
          go_roundw
          case rel => exact ⟨j + 1, by omega, by go_num, hm2.out, hx2.out, hbq2.out⟩
          case measure => simp [intOf]; omega
        · have hvq := Lib.hid (hst.out.vs.grow hbq)
          have Rq := Lib.hid (hst.out.rd.grow hbq)
          have hBq := Lib.hid (hst.out.bel.trans (hbq.mono hst.out.bel.size))
          clear hm hx hbq
          go_wp2_with fail
          refine (vBest_yes b 9 3 _ _ _ _ _ hvq.out.rd hmost.out (by simp) (by simp; omega) rfl hbest.out hcom.out).mono ?_
          rintro r wa ⟨s', rfl, hoa, hba⟩
          dsimp only at hoa
          obtain ⟨qa, qc, rfl⟩ := hoa.rd.len
          have hmin : min (0 : Int) (W.length : Int) = 0 := by omega
          dsimp only
          rw [hmin]
          clear hmin
          have hbb : Below wa.heap.size wa (wa.alloc (boxV 1 0 (.slice qa W.length qc) 0 47)) := (Below.refl _ _).alloc (Nat.le_refl _) _
          have Rb := Lib.hid (hoa.rd.grow hbb)
          have Ra := Lib.hid ((Rq.out.grow hba).grow hbb)
          have hBb := Lib.hid ((hBq.out.trans (hba.mono hBq.out.size)).trans (hbb.mono (Nat.le_trans hBq.out.size hba.size)))
          have heq := Lib.hid (eqAll_refl W)
          clear hoa hba hbb Rq hBq hvq e2
          go_wp2_with fail
          refine (r12EqAll_any _ _ W W _ Rb.out Ra.out).mono ?_
          rintro r wc ⟨rfl, hbc⟩
          rw [heq.out]
          have hBc := hBb.out.trans (hbc.mono hBb.out.size)
          go_wp2
          go_ret
          exact ⟨rfl, hBc⟩

/-! the row's step, written out by law.py -/
set_option maxRecDepth 100000 in
theorem lifted (os : Os) (started : os.Started) (H : Type) (enc : TypeId × Value → H) :
    ReturnsInHanded {} Try.checked os 8 .any (Rows.voteOwnSpec.pre6 enc Try.prog Try.f8 Rows.voteOwnRow.domain false) (Rows.voteOwnSpec.post enc Try.prog Try.f8 false true false false) := by
  refine returnsInHanded_of_change (C := Try.checked) own started (by kernel_rfl) Try.func8
    (ChangeSpec.witness6 (enc := enc) (C := Try.checked) false ⟨#[], #[.slice none 0 0], []⟩ 8 (by kernel_rfl) (by kernel_rfl) (by kernel_rfl) (by kernel_rfl)) ?_
  intro W base args ds gs before hval0 hW hcnd _
  have hval : ∀ (j : Nat) t v, Try.f8.params[j]? = some t → args[j]? = some v → Value.okWide Try.prog W .any base t v := hval0
  have hW' := hW
  obtain ⟨p, q, hA0, hV, rfl, hfz, hnd⟩ := hW
  have hA : DataW.TrodAll enc Try.prog W 0 (fun _ => true) true Try.f8.params.toList args.toList ds p := hA0
  rw [Try.params8] at hA hval
  obtain ⟨v0, vs0, d0, ds0, p0, q0, hargs, rfl, rfl, h0, r0⟩ := trodAll_cons hA
  obtain ⟨rfl, rfl, rfl⟩ := trodAll_nil r0
  obtain rfl : args = #[v0] := by cases args; simp_all
  obtain ⟨rfl, rfl⟩ := trodVars_none hV
  have k0 := h0
  have lt0 : ∀ x ∈ p0, x.block < W.heap.size := by obtain ⟨m, hm⟩ := k0; exact DataW.trod_lt m _ _ _ hm
  obtain ⟨l0, w0, b0⟩ := slentry_open (hval 0 28 v0 rfl rfl) h0
  clear hA0 hval0
  simp only [List.append_nil] at hW'
  refine (walk v0 l0 W w0 b0).mono fun e W' ⟨he, bel⟩ => ?_
  subst he
  exact ⟨_, rfl, _, _, _, [], _, [], hW', trodAll_mk1 (shut_bool Try.underlying4 _), (trodAll_cons_mk (Below.trod laidOut (by kernel_rfl) (of_decide_eq_true (by kernel_rfl)) k0 bel lt0) trodAll_mk0), rfl, bel.frame _, fun h => by cases h⟩

theorem over : Rows.voteOwnRow.holds Try.pinned (OpenSpec.ofChange Rows.voteOwnSpec) :=
  OpenClaim.holds_of_wide 8 Try.f8 rfl rfl rfl rfl rfl rfl rfl ⟨rfl, rfl, rfl, rfl, rfl⟩ rfl rfl rfl rfl rfl (by kernel_rfl) Try.func8 (by kernel_rfl)
    (of_decide_eq_true (by kernel_rfl)) (by unfold Func.isWrapper; first | (rw [if_pos (by decide +kernel)]; kernel_rfl) | (rw [if_neg (by decide +kernel)]; exact ⟨rfl, rfl⟩))
    (fun os started H enc _ => lifted os started H enc)

theorem proved : Rows.VoteOwnSaid := over
end Go.Proofs.Ytacchkmdheglaaa.lawVoteOwn
