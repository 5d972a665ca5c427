/- What is handed in and told is nobody else's: for all lists; no condition. -/
import Derived.Test.YtnkiifodcmfmiaaBegun
import Derived.Test.YtnkiifodcmfmiaaPutA
import Derived.Test.YtnkiifodcmfmiaaPutQ
import Derived.Test.YtnkiifodcmfmiaaRefC
import Derived.Test.YtnkiifodcmfmiaaEntO
namespace Go.Proofs.Ytnkiifodcmfmiaa.lawLogOwn
open Go.ChangeShapes Go.WideShapes Go.ChangeAt Go.RowKit
set_option linter.unusedVariables false

/-- a row that may be written -/
def mutR (w : World) (a : Option Addr) (n : Nat) : Prop := 0 < n → ∃ g off, a = some ⟨g, off, none⟩ ∧ ∃ cur E, w.heap[g]? = some (.cells cur E (0, 0)) ∧ off + n * 7 ≤ cur.size
theorem mutR.cell {w : World} {g off n : Nat} (h : mutR w (some ⟨g, off, none⟩) n) {i c : Nat} (hi : i < n) (hc : c < 7) :
    (∃ u, w.cell? ⟨g, off + i * 7 + c, none⟩ = some u) ∧ w.frozen? ⟨g, off + i * 7 + c, none⟩ = false := by
  obtain ⟨g', off', e, cur, E, hg, hs⟩ := h (by omega)
  injection e with e; injection e with e1 e2; subst e1 e2
  refine ⟨⟨cur[off + i * 7 + c]'(by omega), ?_⟩, by simp [World.frozen?, hg]⟩
  simp [World.cell?, hg]
theorem set_block {w : World} {g o : Nat} {u : Value} {cur : Array Value} {E : TypeId} {fr : Nat × Nat} (h : w.heap[g]? = some (.cells cur E fr)) :
    ∃ cur', (w.setCell ⟨g, o, none⟩ u).heap[g]? = some (.cells cur' E fr) ∧ cur'.size = cur.size := by
  have hlt := heap_lt h
  have h' : w.heap[g] = .cells cur E fr := by simpa [Array.getElem?_eq_getElem hlt] using h
  refine ⟨cur.setIfInBounds o u, ?_, by simp⟩
  show (w.heap.modify g _)[g]? = _
  rw [Array.getElem?_eq_getElem (by simpa using hlt), Array.getElem_modify_self, h']
  rfl
theorem ownE.mut {w : World} {B : Nat} {E : TypeId} {a : Option Addr} {n cap : Nat} {l : List Ent} (h : ownE w B E (.slice a n cap) l) : mutR w a n := by
  intro h0
  obtain ⟨hl, ⟨e, h1⟩ | ⟨g, c, cur, e, hb, hg, hn, hc, hs, ht⟩⟩ := h
  · injection e with e1 e2 e3; omega
  · injection e with e1 e2 e3
    exact ⟨g, 0, e1, cur, E, hg, by rw [hs, e2]; omega⟩

/-- what lasts while a row is written -/
structure StO (N : Nat) (w wr : World) (b : Nat) (F : Nat → Prop) (W : List Ent) (va : Value) (a : Option Addr) (n : Nat) : Prop where
  row : mutR wr a n
  lg : lgO wr F b W
  rd : rdE wr va W
  ap : ∀ g o, a = some ⟨g, o, none⟩ → ¬ F g ∧ va.ownBlock ≠ some g ∧ w.heap.size ≤ g
  bel : Below w.heap.size w wr
  sz : N ≤ wr.heap.size
theorem StO.set {N : Nat} {w wr : World} {b : Nat} {F : Nat → Prop} {W : List Ent} {va : Value} {g off n : Nat} (h : StO N w wr b F W va (some ⟨g, off, none⟩) n) (o : Nat) (u : Value) :
    StO N w (wr.setCell ⟨g, o, none⟩ u) b F W va (some ⟨g, off, none⟩) n := by
  obtain ⟨h1, h2, h3, h4, h5, h6⟩ := h
  obtain ⟨hF, hv, hw⟩ := h4 g off rfl
  have hc : Chg (fun k => k = g) wr (wr.setCell ⟨g, o, none⟩ u) := ⟨rfl, rfl, rfl, by rw [World.size_setCell]; exact Nat.le_refl _, fun k hk hn => Below.heap_setCell _ _ _ _ hn⟩
  refine ⟨fun h0 => ?_, h2.chg hc (fun k hk e => hF (e ▸ hk)), h3.chg hc (fun k hk e => hv (e ▸ hk)), h4, h5.setCell hw u, by rw [World.size_setCell]; exact h6⟩
  obtain ⟨g', off', e, cur, E, hg, hs⟩ := h1 h0
  injection e with e; injection e with e1 e2; subst e1 e2
  obtain ⟨cur', hg', hs'⟩ := set_block (o := o) (u := u) hg
  exact ⟨g, off, rfl, cur', E, hg', by omega⟩

set_option maxHeartbeats 4000000 in
theorem walk (v : Value) (l : List Ent) (w : World) (hr : rdE w v l) (hd : ∀ e ∈ l, e.data.size ≤ 9223372036854775807) :
    Calls Try.prog 8 #[v] w fun e w' => e = .returned (.bool true) ∧ Below w.heap.size w w' := by
  obtain ⟨i0, hi, hz0, hz1, hz2⟩ := info_parts infoEnt
  replace hi := Lib.hid hi
  replace hr := Lib.hid hr
  replace hd := Lib.hid hd
  go_enter Try.func8, Try.ntmps8
  go_wp2_with fail
  refine (b13_any _).mono ?_
  rintro e w1 ⟨rfl, hb1⟩
  go_wp2_with fail
  refine (entries12_any _ l 10 _ (hr.out.grow hb1) hd.out (by omega) (by omega)).mono ?_
  rintro e w2 ⟨x1, rfl, ho1, hb2⟩
  have hB2 := hb1.trans (hb2.mono hb1.size)
  clear hb1 hb2 hd hr
  generalize mapCut l _ = A at ho1
  have R1 := Lib.hid ho1.rd
  clear ho1
  go_wp2_with fail
  refine (r12Log_any _ A _ R1.out).mono ?_
  rintro r w3 ⟨va, rfl, ho3, hb3⟩
  have hB3 := hB2.trans (hb3.mono hB2.size)
  have hgo := good_logE A
  have h60 := logE_len A
  generalize logE A = W at ho3 hgo h60
  have ho3 := Lib.hid (ownE_base ho3 hB2.size)
  clear hB2 hb3 R1
  have hB3' := Lib.hid hB3
  have hfl := Lib.hid (flatE_len W)
  clear hB3
  go_wp2_with (at_builtin; refine wpList_app _ rfl _ _ _ rfl w3.heap.size w.heap.size 34 i0 _ 7 64 Try.underlying22 hi.out hz0 hz1 hz2 rfl (by omega) (.slice none 0 0) 0 [] rfl (World.ownsRow_nil _ _ _ _) _ W.length (flatE W) rfl ho3.out (flatE_one W) (by unfold maxLen; omega) (by omega) (Nat.le_refl _) ?_)
  intro own w4 ho4 hg4 hat4
  have hb4 : Below w3.heap.size w3 w4 := (Below.refl _ _).grown hg4 (Nat.le_refl _) (fun k hk => by cases hk)
  try simp only [Nat.zero_add, List.nil_append] at ho4
  have ho4 : ownE w4 w3.heap.size 34 own W := ho4
  clear hg4 hat4
  obtain ⟨ao, co, rfl⟩ := ho4.rd.len
  have hmut := ownE.mut ho4
  have hoB : ∀ g o, ao = some ⟨g, o, none⟩ → w3.heap.size ≤ g ∧ g < w4.heap.size := fun g o e => ho4.lt g (by rw [e]; rfl)
  have Ro := Lib.hid ho4.rd
  have Ra := Lib.hid (ho3.out.rd.grow hb4)
  have hvl : ∀ k, va.ownBlock = some k → k < w3.heap.size := fun k hk => (ho3.out.lt k hk).2
  have hB4 := Lib.hid (hB3'.out.trans (hb4.mono hB3'.out.size))
  obtain ⟨aW, cW, rfl⟩ := ho3.out.rd.len
  have hnl : logE ([] : List Ent) = [] := rfl
  have hsz34 := hb4.size
  clear ho3 ho4 hb4
  replace hmut := Lib.hid hmut
  replace hoB := Lib.hid hoB
  replace hvl := Lib.hid hvl
  go_wp2_with fail
  refine (logNew_any _ [] _ (rdE_nil _ none 0 (Nat.zero_le _))).mono ?_
  rintro r w5 ⟨b, rfl, hbb, hlg, hb5⟩
  rw [hnl] at hlg
  have Ro5 := Lib.hid (Ro.out.grow hb5)
  have hput := put_whole hgo (n := 0) (K := 0) (Nat.le_refl _) (Nat.zero_le _)
  rw [List.take_zero, List.drop_zero] at hput
  have hpe : putE [] 0 W = some W := by rw [putE, if_neg (by simp)]; exact hput
  clear hput hnl
  replace hlg := Lib.hid hlg
  replace hpe := Lib.hid hpe
  replace hb5 := Lib.hid hb5
  replace hgo := Lib.hid hgo
  go_wp2_with fail
  refine (logPut_any b _ [] W 0 _ _ hlg.out Ro5.out (by simp)).mono ?_
  rintro r w6 ⟨rfl, hlg6, hc6⟩
  rw [hpe.out, Option.getD_some] at hlg6
  have hFF : Hid (∀ k, Gr (News w4 w5) w5 w6 k → w4.heap.size ≤ k ∧ k < w6.heap.size) := Lib.hid fun k hk => by
    have h45 := hb5.out.size
    have h56 := hc6.size
    rcases hk with f | f
    · exact ⟨f.1, by have := f.2; omega⟩
    · exact ⟨by have := f.1; omega, f.2⟩
  have h46 : w4.heap.size ≤ w6.heap.size := Nat.le_trans hb5.out.size hc6.size
  have hSt : StO w6.heap.size w w6 b (Gr (News w4 w5) w5 w6) W (.slice aW W.length cW) ao W.length := by
    have h45 := hb5.out.size
    have h56 := hc6.size
    have hb56 : Below w4.heap.size w5 w6 := hc6.below h45 fun k hk => hk.1
    have hb46 : Below w4.heap.size w4 w6 := hb5.out.trans hb56
    refine ⟨fun h0 => ?_, hlg6, (Ra.out.grow hb46), fun g o e => ?_, hB4.out.trans (hb46.mono hB4.out.size), Nat.le_refl _⟩
    · obtain ⟨g, off, e, cur, E, hg, hs⟩ := hmut.out h0
      exact ⟨g, off, e, cur, E, by rw [hb46.block g (heap_lt hg)]; exact hg, hs⟩
    · obtain ⟨h1, h2⟩ := hoB.out g o e
      refine ⟨fun f => by have := (hFF.out g f).1; omega, fun e => by have := hvl.out g e; omega, by have := hB3'.out.size; omega⟩
  generalize Gr (News w4 w5) w5 w6 = FF at hFF hSt
  have hf0 : Hid (fromE W 0 = W) := Lib.hid (by simp [fromE])
  have hN : w3.heap.size ≤ w6.heap.size := by omega
  have hN0 := hB3'.out.size
  clear hlg6 hc6 hmut hlg hb5 hbb Ro Ro5 Ra hoB hpe hB4
  replace hSt := Lib.hid hSt
  obtain ⟨N, hNe⟩ : ∃ N, N = w6.heap.size := ⟨_, rfl⟩
  rw [← hNe] at hSt hFF hN h46
  replace hNe := Lib.hid hNe
  go_wp2
  go_loopw [7] (fun i wr => ∃ k : Nat, k ≤ W.length ∧ i = .int .i64 k ∧ StO N w wr b FF W (.slice aW W.length cW) ao W.length) (fun i _ => W.length - (intOf i).toNat)
  case atStart => exact ⟨0, Nat.zero_le _, rfl, hSt.out⟩
  case round =>
    obtain ⟨k, hk, rfl, hst⟩ := hrel
    clear hSt
    by_cases hlt : k < W.length
    · obtain ⟨g, off, rfl, _⟩ := hst.row (by omega)
      obtain ⟨⟨u, hcell⟩, hfz⟩ := hst.row.cell hlt (c := 2) (by omega)
      have hS := hst.set (off + k * 7 + 2) (.int .i64 5555)
      replace hst := Lib.hid hst
      replace hS := Lib.hid hS
      go_wp2
      go_roundw
      case rel => exact ⟨k + 1, by omega, by go_num, hS.out⟩
      case measure => simp [intOf]; omega
    · replace hst := Lib.hid hst
      go_wp2_with fail
      refine (logFrom_any b W 0 _ hst.out.lg.rd (by omega)).mono ?_
      rintro r w8 ⟨x, rfl, ho8, hb8⟩
      rw [hf0.out] at ho8
      obtain ⟨ax, cx, rfl⟩ := ho8.rd.len
      have hSt : StO N w w8 b FF W (.slice aW W.length cW) ax W.length := by
        refine ⟨ownE.mut ho8, hst.out.lg.grow hb8, hst.out.rd.grow hb8, fun g o e => ?_, hst.out.bel.trans (hb8.mono hst.out.bel.size), Nat.le_trans hst.out.sz hb8.size⟩
        have h1 := (ho8.lt g (by rw [e]; rfl)).1
        have h2 := hst.out.sz
        exact ⟨fun f => by have := (hFF.out g f).2; omega, fun e => by have := hvl.out g e; omega, by omega⟩
      clear hst ho8 hb8
      replace hSt := Lib.hid hSt
      go_wp2
      go_loopw [9] (fun i wr => ∃ k : Nat, k ≤ W.length ∧ i = .int .i64 k ∧ StO N w wr b FF W (.slice aW W.length cW) ax W.length) (fun i _ => W.length - (intOf i).toNat)
      case atStart => exact ⟨0, Nat.zero_le _, rfl, hSt.out⟩
      case round =>
        obtain ⟨k, hk, rfl, hst⟩ := hrel
        clear hSt
        by_cases hlt : k < W.length
        · obtain ⟨g, off, rfl, _⟩ := hst.row (by omega)
          obtain ⟨⟨u, hcell⟩, hfz⟩ := hst.row.cell hlt (c := 6) (by omega)
          have hS := hst.set (off + k * 7 + 6) (.string ⟨#[115, 112, 111, 105, 108, 116]⟩)
          replace hst := Lib.hid hst
          replace hS := Lib.hid hS
          go_wp2
          go_roundw
          case rel => exact ⟨k + 1, by omega, by go_num, hS.out⟩
          case measure => simp [intOf]; omega
        · replace hst := Lib.hid hst
          go_wp2_with fail
          refine (same13_yes b _ W _ hst.out.lg.rd hst.out.rd h60).mono ?_
          rintro r w9 ⟨rfl, hb9⟩
          have hB9 := hst.out.bel.trans (hb9.mono hst.out.bel.size)
          go_wp2
          go_ret
          exact ⟨rfl, hB9⟩

/-! the row's step, written out by law.py -/
set_option maxRecDepth 100000 in
theorem lifted (os : Os) (started : os.Started) (H : Type) (enc : TypeId × Value → H) :
    ReturnsInHanded {} Try.checked os 8 .any (Rows.logOwnSpec.pre6 enc Try.prog Try.f8 Rows.logOwnRow.domain false) (Rows.logOwnSpec.post enc Try.prog Try.f8 false true false false) := by
  refine returnsInHanded_of_change (C := Try.checked) own started (by kernel_rfl) Try.func8
    (ChangeSpec.witness6 (enc := enc) (C := Try.checked) false ⟨#[], #[.slice none 0 0], []⟩ 8 (by kernel_rfl) (by kernel_rfl) (by kernel_rfl) (by kernel_rfl)) ?_
  intro W base args ds gs before hval0 hW hcnd _
  have hval : ∀ (j : Nat) t v, Try.f8.params[j]? = some t → args[j]? = some v → Value.okWide Try.prog W .any base t v := hval0
  have hW' := hW
  obtain ⟨p, q, hA0, hV, rfl, hfz, hnd⟩ := hW
  have hA : DataW.TrodAll enc Try.prog W 0 (fun _ => true) true Try.f8.params.toList args.toList ds p := hA0
  rw [Try.params8] at hA hval
  obtain ⟨v0, vs0, d0, ds0, p0, q0, hargs, rfl, rfl, h0, r0⟩ := trodAll_cons hA
  obtain ⟨rfl, rfl, rfl⟩ := trodAll_nil r0
  obtain rfl : args = #[v0] := by cases args; simp_all
  obtain ⟨rfl, rfl⟩ := trodVars_none hV
  have k0 := h0
  have lt0 : ∀ x ∈ p0, x.block < W.heap.size := by obtain ⟨m, hm⟩ := k0; exact DataW.trod_lt m _ _ _ hm
  obtain ⟨l0, w0, b0⟩ := slentry_open (hval 0 22 v0 rfl rfl) h0
  clear hA0 hval0
  simp only [List.append_nil] at hW'
  refine (walk v0 l0 W w0 b0).mono fun e W' ⟨he, bel⟩ => ?_
  subst he
  exact ⟨_, rfl, _, _, _, [], _, [], hW', trodAll_mk1 (shut_bool Try.underlying4 _), (trodAll_cons_mk (Below.trod laidOut (by kernel_rfl) (of_decide_eq_true (by kernel_rfl)) k0 bel lt0) trodAll_mk0), rfl, bel.frame _, fun h => by cases h⟩

theorem over : Rows.logOwnRow.holds Try.pinned (OpenSpec.ofChange Rows.logOwnSpec) :=
  OpenClaim.holds_of_wide 8 Try.f8 rfl rfl rfl rfl rfl rfl rfl ⟨rfl, rfl, rfl, rfl, rfl⟩ rfl rfl rfl rfl rfl (by kernel_rfl) Try.func8 (by kernel_rfl)
    (of_decide_eq_true (by kernel_rfl)) (by unfold Func.isWrapper; first | (rw [if_pos (by decide +kernel)]; kernel_rfl) | (rw [if_neg (by decide +kernel)]; exact ⟨rfl, rfl⟩))
    (fun os started H enc _ => lifted os started H enc)

theorem proved : Rows.LogOwnSaid := over
end Go.Proofs.Ytnkiifodcmfmiaa.lawLogOwn
