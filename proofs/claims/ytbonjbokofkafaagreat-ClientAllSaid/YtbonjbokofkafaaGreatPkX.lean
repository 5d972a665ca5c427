/- Lemmas of the proof: PkX. -/
import Derived.Test.YtbonjbokofkafaaGreatPkB
import Derived.Test.YtbonjbokofkafaaGreatPkA
import Derived.Test.YtbonjbokofkafaaGreatPkH
import Derived.Test.YtbonjbokofkafaaGreatPkW
import Derived.Test.YtbonjbokofkafaaGreatPkV
import Derived.Deep.MidRow
import Derived.Deep.CutBlock
/- The operations of the law ClientAll, opened. -/
namespace Go.Proofs.YtbonjbokofkafaaGreat
open Go.ChangeShapes Go.WideShapes Go.ChangeAt Go.RowKit
set_option linter.unusedVariables false
structure Op25 where
  kind : Int
  n : Int
  m0 : Int
  m1 : Int
  m2 : Int
  m3 : Int
  m4 : Int
  m5 : Int
  m6 : Int
  m7 : Int
  ma : Option Addr
  ml : Nat
  mc : Nat
  m9 : Int
  m10 : Int
  m11 : Int
  m12 : Bool
  fit : Bool
  ord : Int
  lev : Int
  data : ByteArray
instance : Inhabited Op25 := ⟨⟨0, 0, 0, 0, 0, 0, 0, 0, 0, 0, none, 0, 0, 0, 0, 0, false, false, 0, 0, ByteArray.empty⟩⟩
def cOp25 (w : World) (b o : Nat) (x : Op25) : Prop :=
  w.cell? ⟨b, o, none⟩ = some (.int .i64 x.kind) ∧ w.cell? ⟨b, o + 1, none⟩ = some (.int .i64 x.n) ∧ w.cell? ⟨b, o + 2, none⟩ = some (.int .i64 x.m0) ∧ w.cell? ⟨b, o + 3, none⟩ = some (.int .i64 x.m1) ∧ w.cell? ⟨b, o + 4, none⟩ = some (.int .i64 x.m2) ∧ w.cell? ⟨b, o + 5, none⟩ = some (.int .i64 x.m3) ∧ w.cell? ⟨b, o + 6, none⟩ = some (.int .i64 x.m4) ∧ w.cell? ⟨b, o + 7, none⟩ = some (.int .i64 x.m5) ∧ w.cell? ⟨b, o + 8, none⟩ = some (.int .i64 x.m6) ∧ w.cell? ⟨b, o + 9, none⟩ = some (.int .i64 x.m7) ∧ w.cell? ⟨b, o + 10, none⟩ = some (.slice x.ma x.ml x.mc) ∧ w.cell? ⟨b, o + 11, none⟩ = some (.int .i64 x.m9) ∧ w.cell? ⟨b, o + 12, none⟩ = some (.int .i64 x.m10) ∧ w.cell? ⟨b, o + 13, none⟩ = some (.int .i64 x.m11) ∧ w.cell? ⟨b, o + 14, none⟩ = some (.bool x.m12) ∧ w.cell? ⟨b, o + 15, none⟩ = some (.bool x.fit) ∧ w.cell? ⟨b, o + 16, none⟩ = some (.int .i64 x.ord) ∧ w.cell? ⟨b, o + 17, none⟩ = some (.int .i64 x.lev) ∧ w.cell? ⟨b, o + 18, none⟩ = some (.string x.data) ∧ x.data.size ≤ 9223372036854775807 ∧ I64 x.ord ∧ I64 x.lev
theorem cOp25.lt {w : World} {b o : Nat} {x : Op25} (h : cOp25 w b o x) : b < w.heap.size := cell_lt h.1
theorem cOp25.grow (w w' : World) (b o : Nat) (x : Op25) (h : cOp25 w b o x) (hb : Below w.heap.size w w') : cOp25 w' b o x := by
  have hlt := h.lt
  have k : ∀ o, w'.cell? ⟨b, o, none⟩ = w.cell? ⟨b, o, none⟩ := fun o => hb.cell hlt
  unfold cOp25 at h ⊢
  simp only [k]
  exact h
/-- field i: at offset o, of n cells -/
def fieldOf2 (P : Program) (fs : Array Field) (i o n : Nat) (ty : TypeDesc → Bool) : Bool := match fs[i]? with
  | some f => f.offset == o && P.cellsOf f.type == n && ((P.underlying f.type).map ty).getD false
  | none => false
theorem fieldOf2_spec {P : Program} {fs : Array Field} {i o n : Nat} {ty : TypeDesc → Bool} (h : fieldOf2 P fs i o n ty = true) : ∃ f, fs[i]? = some f ∧ f.offset = o ∧ P.cellsOf f.type = n ∧ ∃ u, P.underlying f.type = some u ∧ ty u = true := by
  unfold fieldOf2 at h
  cases hf : fs[i]? with
  | none => rw [hf] at h; cases h
  | some f =>
    rw [hf] at h
    simp only [Bool.and_eq_true, beq_iff_eq] at h
    obtain ⟨⟨h1, h2⟩, h3⟩ := h
    refine ⟨f, rfl, h1, h2, ?_⟩
    cases hu : P.underlying f.type with
    | none => rw [hu] at h3; cases h3
    | some u => rw [hu] at h3; exact ⟨u, rfl, h3⟩
def isBoolD : TypeDesc → Bool
  | .bool => true
  | _ => false
theorem isBoolD_spec {t : TypeDesc} (h : isBoolD t = true) : t = .bool := by
  unfold isBoolD at h; split at h
  · rfl
  · cases h
def isStructD : TypeDesc → Bool
  | .struct _ => true
  | _ => false
section
variable {H : Type} {enc : TypeId × Value → H} {P : Program} {W : World} {base : Nat} {spare : Nat → Bool} {held : Bool} {n : Nat} {fs : Array Field} {xs : List (DataW H × List MemPlace)} {cs' : List Value}
theorem g1_at (hfl : ∀ (i : Nat) (f : Field), fs[i]? = some f → DataW.trod enc P W base spare held n f.type ((cs'.drop f.offset).take (P.cellsOf f.type)) = xs[i]?)
    (hxl : xs.length = fs.size) {i o : Nat} {ty : TypeDesc → Bool} (h : fieldOf2 P fs i o 1 ty = true) (hlen : o < cs'.length) : ∃ v x t u, cs'[o]? = some v ∧ P.underlying t = some u ∧ ty u = true ∧ DataW.trod enc P W base spare held n t [v] = some x := by
  obtain ⟨f, hi, ho, h1, u, hu, ht⟩ := fieldOf2_spec h
  have g := hfl i f hi
  have hlt : i < fs.size := (Array.getElem?_eq_some_iff.1 hi).1
  rw [ho, h1, Go.Deep.take1_drop _ _ undef hlen, List.getElem?_eq_getElem (by omega)] at g
  refine ⟨_, _, f.type, u, ?_, hu, ht, g⟩
  rw [List.getD_eq_getElem?_getD, List.getElem?_eq_getElem hlen]; rfl
theorem gint_at (hfl : ∀ (i : Nat) (f : Field), fs[i]? = some f → DataW.trod enc P W base spare held n f.type ((cs'.drop f.offset).take (P.cellsOf f.type)) = xs[i]?)
    (hxl : xs.length = fs.size) {i o : Nat} (h : fieldOf2 P fs i o 1 isI64d = true) (hlen : o < cs'.length) : ∃ z, cs'[o]? = some (.int .i64 z) ∧ I64 z := by
  obtain ⟨v, x, t, u, h1, h2, h3, h4⟩ := g1_at hfl hxl h hlen
  obtain rfl := isI64d_spec h3
  obtain ⟨z, hz, _, hw⟩ := DataW.trod_int h2 h4
  simp at hz; subst hz
  exact ⟨z, h1, bounds_i64 hw⟩
theorem gbool_at (hfl : ∀ (i : Nat) (f : Field), fs[i]? = some f → DataW.trod enc P W base spare held n f.type ((cs'.drop f.offset).take (P.cellsOf f.type)) = xs[i]?)
    (hxl : xs.length = fs.size) {i o : Nat} (h : fieldOf2 P fs i o 1 isBoolD = true) (hlen : o < cs'.length) : ∃ z, cs'[o]? = some (.bool z) := by
  obtain ⟨v, x, t, u, h1, h2, h3, h4⟩ := g1_at hfl hxl h hlen
  obtain rfl := isBoolD_spec h3
  obtain ⟨z, hz, _⟩ := DataW.trod_bool h2 h4
  simp at hz; subst hz
  exact ⟨z, h1⟩
theorem gstr_at (hfl : ∀ (i : Nat) (f : Field), fs[i]? = some f → DataW.trod enc P W base spare held n f.type ((cs'.drop f.offset).take (P.cellsOf f.type)) = xs[i]?)
    (hxl : xs.length = fs.size) {i o : Nat} (h : fieldOf2 P fs i o 1 isStr = true) (hlen : o < cs'.length) : ∃ z, cs'[o]? = some (.string z) ∧ z.size ≤ 9223372036854775807 := by
  obtain ⟨v, x, t, u, h1, h2, h3, h4⟩ := g1_at hfl hxl h hlen
  obtain rfl := isStr_spec h3
  obtain ⟨z, hz, _, hw⟩ := DataW.trod_string h2 h4
  simp at hz; subst hz
  exact ⟨z, h1, by unfold maxLen at hw; omega⟩
theorem gsl_at (e : TypeId) (hfl : ∀ (i : Nat) (f : Field), fs[i]? = some f → DataW.trod enc P W base spare held n f.type ((cs'.drop f.offset).take (P.cellsOf f.type)) = xs[i]?)
    (hxl : xs.length = fs.size) {i o : Nat} (h : fieldOf2 P fs i o 1 (isSl e) = true) (hlen : o < cs'.length) : ∃ a l c, cs'[o]? = some (.slice a l c) := by
  obtain ⟨v, x, t, u, h1, h2, h3, h4⟩ := g1_at hfl hxl h hlen
  obtain rfl := isSl_spec h3
  rcases Go.Deep.open_slice h2 h4 with ⟨hz, _⟩ | ⟨a, len, cap, _, _, _, _, hz, _⟩
  · simp at hz; subst hz; exact ⟨_, _, _, h1⟩
  · simp at hz; subst hz; exact ⟨_, _, _, h1⟩
end
theorem op25F0 : fieldOf2 Tryz.prog (fieldsOf Tryz.prog 39) 0 0 1 isI64d = true := by kernel_rfl
theorem op25F1 : fieldOf2 Tryz.prog (fieldsOf Tryz.prog 39) 1 1 1 isI64d = true := by kernel_rfl
theorem op25F3 : fieldOf2 Tryz.prog (fieldsOf Tryz.prog 39) 3 15 1 isBoolD = true := by kernel_rfl
theorem op25F4 : fieldOf2 Tryz.prog (fieldsOf Tryz.prog 39) 4 16 1 isI64d = true := by kernel_rfl
theorem op25F5 : fieldOf2 Tryz.prog (fieldsOf Tryz.prog 39) 5 17 1 isI64d = true := by kernel_rfl
theorem op25F6 : fieldOf2 Tryz.prog (fieldsOf Tryz.prog 39) 6 18 1 isStr = true := by kernel_rfl
theorem op25F2 : fieldOf2 Tryz.prog (fieldsOf Tryz.prog 39) 2 2 13 isStructD = true := by kernel_rfl
theorem op25T2 : ((fieldsOf Tryz.prog 39)[2]?.map fun f => Tryz.prog.underlying f.type) = some (some (.struct (fieldsOf Tryz.prog 37))) := by kernel_rfl
theorem msgF0 : fieldOf2 Tryz.prog (fieldsOf Tryz.prog 37) 0 0 1 (isI64d) = true := by kernel_rfl
theorem msgF1 : fieldOf2 Tryz.prog (fieldsOf Tryz.prog 37) 1 1 1 (isI64d) = true := by kernel_rfl
theorem msgF2 : fieldOf2 Tryz.prog (fieldsOf Tryz.prog 37) 2 2 1 (isI64d) = true := by kernel_rfl
theorem msgF3 : fieldOf2 Tryz.prog (fieldsOf Tryz.prog 37) 3 3 1 (isI64d) = true := by kernel_rfl
theorem msgF4 : fieldOf2 Tryz.prog (fieldsOf Tryz.prog 37) 4 4 1 (isI64d) = true := by kernel_rfl
theorem msgF5 : fieldOf2 Tryz.prog (fieldsOf Tryz.prog 37) 5 5 1 (isI64d) = true := by kernel_rfl
theorem msgF6 : fieldOf2 Tryz.prog (fieldsOf Tryz.prog 37) 6 6 1 (isI64d) = true := by kernel_rfl
theorem msgF7 : fieldOf2 Tryz.prog (fieldsOf Tryz.prog 37) 7 7 1 (isI64d) = true := by kernel_rfl
theorem msgF8 : fieldOf2 Tryz.prog (fieldsOf Tryz.prog 37) 8 8 1 (isSl 134) = true := by kernel_rfl
theorem msgF9 : fieldOf2 Tryz.prog (fieldsOf Tryz.prog 37) 9 9 1 (isI64d) = true := by kernel_rfl
theorem msgF10 : fieldOf2 Tryz.prog (fieldsOf Tryz.prog 37) 10 10 1 (isI64d) = true := by kernel_rfl
theorem msgF11 : fieldOf2 Tryz.prog (fieldsOf Tryz.prog 37) 11 11 1 (isI64d) = true := by kernel_rfl
theorem msgF12 : fieldOf2 Tryz.prog (fieldsOf Tryz.prog 37) 12 12 1 (isBoolD) = true := by kernel_rfl
set_option maxRecDepth 100000 in
theorem slop25_open {H : Type} {enc : TypeId × Value → H} {W : World} {base : Nat} {v : Value} {d : DataW H} {ps : List MemPlace}
    (hok : Value.okWide Tryz.prog W .any base 29 v) (h : DataW.Trod enc Tryz.prog W 0 (fun _ => true) true 29 v d ps) : ∃ l, rdS 19 cOp25 W v l ∧ True := by
  obtain ⟨a0, len0, cap0, rfl⟩ := okWide_slice Tryz.underlying29 hok
  obtain ⟨fuel, hf⟩ := h
  obtain ⟨v, l, hcs, hr⟩ := rdS_openG (C := cOp25) (size := 19) (by omega) (fs := fieldsOf Tryz.prog 39) Tryz.underlying29 (by kernel_rfl) (by kernel_rfl) (fun n b off cs' xs hlen hcell hxl hfl => by
    obtain ⟨z0, b0, _⟩ := gint_at hfl hxl op25F0 (by omega)
    obtain ⟨z1, b1, _⟩ := gint_at hfl hxl op25F1 (by omega)
    obtain ⟨z15, b15⟩ := gbool_at hfl hxl op25F3 (by omega)
    obtain ⟨z16, b16, i16⟩ := gint_at hfl hxl op25F4 (by omega)
    obtain ⟨z17, b17, i17⟩ := gint_at hfl hxl op25F5 (by omega)
    obtain ⟨z18, b18, i18⟩ := gstr_at hfl hxl op25F6 (by omega)
    obtain ⟨f, hi, ho, h1, _⟩ := fieldOf2_spec op25F2
    have hu := op25T2
    rw [hi] at hu
    simp only [Option.map_some, Option.some.injEq] at hu
    have g := hfl 2 f hi
    have hlt := (Array.getElem?_eq_some_iff.1 hi).1
    rw [ho, h1, List.getElem?_eq_getElem (by omega)] at g
    obtain ⟨ys, k, _, _, _, hyl, hgl⟩ := DataW.trod_struct hu g
    have hl13 : ((cs'.drop 2).take 13).length = 13 := by simp; omega
    have at_ : ∀ j, j < 13 → ((cs'.drop 2).take 13)[j]? = cs'[j + 2]? := fun j hj => by
      rw [List.getElem?_take, if_pos hj, List.getElem?_drop, Nat.add_comm]
    obtain ⟨t0, y0, _⟩ := gint_at hgl hyl msgF0 (by omega)
    rw [at_ 0 (by omega)] at y0
    obtain ⟨t1, y1, _⟩ := gint_at hgl hyl msgF1 (by omega)
    rw [at_ 1 (by omega)] at y1
    obtain ⟨t2, y2, _⟩ := gint_at hgl hyl msgF2 (by omega)
    rw [at_ 2 (by omega)] at y2
    obtain ⟨t3, y3, _⟩ := gint_at hgl hyl msgF3 (by omega)
    rw [at_ 3 (by omega)] at y3
    obtain ⟨t4, y4, _⟩ := gint_at hgl hyl msgF4 (by omega)
    rw [at_ 4 (by omega)] at y4
    obtain ⟨t5, y5, _⟩ := gint_at hgl hyl msgF5 (by omega)
    rw [at_ 5 (by omega)] at y5
    obtain ⟨t6, y6, _⟩ := gint_at hgl hyl msgF6 (by omega)
    rw [at_ 6 (by omega)] at y6
    obtain ⟨t7, y7, _⟩ := gint_at hgl hyl msgF7 (by omega)
    rw [at_ 7 (by omega)] at y7
    obtain ⟨ma, ml, mc, y8⟩ := gsl_at 134 hgl hyl msgF8 (by omega)
    rw [at_ 8 (by omega)] at y8
    obtain ⟨t9, y9, _⟩ := gint_at hgl hyl msgF9 (by omega)
    rw [at_ 9 (by omega)] at y9
    obtain ⟨t10, y10, _⟩ := gint_at hgl hyl msgF10 (by omega)
    rw [at_ 10 (by omega)] at y10
    obtain ⟨t11, y11, _⟩ := gint_at hgl hyl msgF11 (by omega)
    rw [at_ 11 (by omega)] at y11
    obtain ⟨t12, y12⟩ := gbool_at hgl hyl msgF12 (by omega)
    rw [at_ 12 (by omega)] at y12
    exact ⟨⟨z0, z1, t0, t1, t2, t3, t4, t5, t6, t7, ma, ml, mc, t9, t10, t11, t12, z15, z16, z17, z18⟩, hcell 0 _ b0, hcell 1 _ b1, hcell 2 _ y0, hcell 3 _ y1, hcell 4 _ y2, hcell 5 _ y3, hcell 6 _ y4, hcell 7 _ y5, hcell 8 _ y6, hcell 9 _ y7, hcell 10 _ y8, hcell 11 _ y9, hcell 12 _ y10, hcell 13 _ y11, hcell 14 _ y12, hcell 15 _ b15, hcell 16 _ b16, hcell 17 _ b17, hcell 18 _ b18, i18, i16, i17⟩) hf
  simp [Value.cells] at hcs
  subst hcs
  exact ⟨l, hr, trivial⟩
end Go.Proofs.YtbonjbokofkafaaGreat
/- The same told entries. -/
namespace Go.Proofs.YtbonjbokofkafaaGreat
open Go.RowKit
set_option linter.unusedVariables false
def eqT1 (a b : Int × Ent) : Bool := a.1 == b.1 && eqE a.2 b.2
def eqT : List (Int × Ent) → List (Int × Ent) → Bool
  | [], [] => true
  | a :: l, b :: m => eqT1 a b && eqT l m
  | _, _ => false
theorem eqT_len {l m : List (Int × Ent)} (h : eqT l m = true) : l.length = m.length := by
  induction l generalizing m with
  | nil => cases m with | nil => rfl | cons => simp [eqT] at h
  | cons a l ih => cases m with
    | nil => simp [eqT] at h
    | cons b m => simp [eqT] at h; simp [ih h.2]
theorem eqT_ne {l m : List (Int × Ent)} (h : l.length ≠ m.length) : eqT l m = false := by
  cases e : eqT l m with
  | false => rfl
  | true => exact absurd (eqT_len e) h
theorem eqT_take {l m : List (Int × Ent)} (k : Nat) (h : k < l.length) (h' : k < m.length) : eqT (l.take (k + 1)) (m.take (k + 1)) = (eqT (l.take k) (m.take k) && eqT1 l[k] m[k]) := by
  induction k generalizing l m with
  | zero =>
    cases l with
    | nil => simp at h
    | cons a l => cases m with
      | nil => simp at h'
      | cons b m => simp [eqT]
  | succ k ih =>
    cases l with
    | nil => simp at h
    | cons a l => cases m with
      | nil => simp at h'
      | cons b m =>
        simp only [List.take_succ_cons, eqT, List.getElem_cons_succ]
        rw [ih (by simpa using h) (by simpa using h'), Bool.and_assoc]
theorem eqT_false {l m : List (Int × Ent)} (k : Nat) (h : k ≤ l.length) (h' : k ≤ m.length) (hf : eqT (l.take k) (m.take k) = false) : eqT l m = false := by
  induction k generalizing l m with
  | zero => simp [eqT] at hf
  | succ k ih =>
    cases l with
    | nil => simp at h
    | cons a l => cases m with
      | nil => simp at h'
      | cons b m =>
        simp only [List.take_succ_cons, eqT, Bool.and_eq_false_iff] at hf ⊢
        exact hf.imp id fun hf => ih (by simpa using h) (by simpa using h') hf
theorem tdCells8 {w : World} {b o : Nat} {t : Int × Ent} (h : atG tdShp w b o t) :
    w.cell? ⟨b, o, none⟩ = some (.int .i64 t.1) ∧ w.cell? ⟨b, o + 1, none⟩ = some (.int .i64 t.2.frm) ∧ w.cell? ⟨b, o + 1 + 1, none⟩ = some (.int .i64 t.2.boot) ∧ w.cell? ⟨b, o + 1 + 2, none⟩ = some (.int .i64 t.2.seq) ∧ w.cell? ⟨b, o + 1 + 3, none⟩ = some (.int .i64 t.2.ord) ∧
    w.cell? ⟨b, o + 1 + 4, none⟩ = some (.int .i64 t.2.lev) ∧ w.cell? ⟨b, o + 1 + 5, none⟩ = some (.int .i64 t.2.stamp) ∧ w.cell? ⟨b, o + 1 + 6, none⟩ = some (.string t.2.data) :=
  ⟨h 0 _ rfl, h 1 _ rfl, h 2 _ rfl, h 3 _ rfl, h 4 _ rfl, h 5 _ rfl, h 6 _ rfl, h 7 _ rfl⟩
theorem eqT_refl : ∀ l : List (Int × Ent), eqT l l = true
  | [] => rfl
  | a :: l => by simp [eqT, eqT1, eqE, sameE, eqT_refl l]
set_option maxRecDepth 100000 in
set_option maxHeartbeats 8000000 in
theorem r12EqTold_any (v v2 : Value) (l m : List (Int × Ent)) (w : World) (hr : rdS 8 (atG tdShp) w v l) (hr2 : rdS 8 (atG tdShp) w v2 m) :
    Calls Tryz.prog 38 #[v, v2] w fun r w' => r = .returned (.bool (eqT l m)) ∧ Below w.heap.size w w' := by
  obtain ⟨a, cap, rfl, hm, hM, ha⟩ := hr
  obtain ⟨a2, cap2, rfl, hm2, hM2, ha2⟩ := hr2
  unfold maxLen at hM hM2
  by_cases hlen : l.length = m.length
  · have hge : m.length ≤ l.length := by omega
    have hle : l.length ≤ m.length := by omega
    have hb0 : (((l.length : Nat) : Int) != ((m.length : Nat) : Int)) = false := by simp [hlen]
    clear hlen
    replace ha := Lib.hid ha
    replace ha2 := Lib.hid ha2
    go_enter Tryz.func38, Tryz.ntmps38
    go_wp2
    go_loopw [5] (fun i wr => ∃ k : Nat, k ≤ l.length ∧ i = .int .i64 k ∧ eqT (l.take k) (m.take k) = true ∧ Below w.heap.size w wr) (fun i _ => l.length - (intOf i).toNat)
    case atStart => exact ⟨0, Nat.zero_le _, rfl, rfl, Below.refl _ _⟩
    case round =>
      obtain ⟨k, hk, rfl, hno, hbel⟩ := hrel
      replace hno := Lib.hid hno
      by_cases hlt : k < l.length
      · have hlt2 : k < m.length := by omega
        obtain ⟨bl, off, rfl, hc⟩ := ha.out (by omega)
        obtain ⟨bl2, off2, rfl, hc2⟩ := ha2.out (by omega)
        have hck := (hc k hlt).grow tdShp _ _ _ _ _ hbel
        have hck2 := (hc2 k hlt2).grow tdShp _ _ _ _ _ hbel
        have hs := eqT_take (l := l) (m := m) k hlt hlt2
        clear hc hc2
        generalize l[k] = x at hck hs
        generalize m[k] = y at hck2 hs
        obtain ⟨xa, x⟩ := x
        obtain ⟨ya, y⟩ := y
        replace hs := Lib.hid hs
        obtain ⟨c0, c1, c2, c3, c4, c5, c6, c7⟩ := tdCells8 hck
        obtain ⟨d0, d1, d2, d3, d4, d5, d6, d7⟩ := tdCells8 hck2
        clear hck hck2
        dsimp only at c0 d0
        have hE := Lib.hid (fun z => call_up (x := z) (req_any x y (upTo wr z)))
        have x0 := upTo_cell c0
        have x1 := upTo_cell c1
        have x2 := upTo_cell c2
        have x3 := upTo_cell c3
        have x4 := upTo_cell c4
        have x5 := upTo_cell c5
        have x6 := upTo_cell c6
        have x7 := upTo_cell c7
        have y0 := upTo_cell d0
        have y1 := upTo_cell d1
        have y2 := upTo_cell d2
        have y3 := upTo_cell d3
        have y4 := upTo_cell d4
        have y5 := upTo_cell d5
        have y6 := upTo_cell d6
        have y7 := upTo_cell d7
        clear c0 c1 c2 c3 c4 c5 c6 c7 d0 d1 d2 d3 d4 d5 d6 d7
        go_upto_region 6 with (fail)
        by_cases hat : xa = ya
        · subst hat
          have hne : (xa != xa) = false := by simp
          refine wp_region_up (by kernel_rfl) (by kernel_rfl) ?_
          repeat (go_big_quiet_step ((go_at_call 88; exact hE.out _)))
          refine wpQuiet_nil ?_
          intro w2 hw2
          have hb2 := up_below hw2
          clear hw2 hE x0 x1 x2 x3 x4 x5 x6 x7 y0 y1 y2 y3 y4 y5 y6 y7
          have hbel2 := hbel.trans (hb2.mono hbel.size)
          clear hb2 hbel
          cases hsm : eqE x y
          · go_wp2
            go_ret
            exact ⟨ret_bool (by rw [eqT_false (k + 1) (by omega) (by omega) (by rw [hs.out, eqT1, hsm, Bool.and_false, Bool.and_false])]), hbel2⟩
          · go_wp2
            go_roundw
            case rel => exact ⟨k + 1, by omega, by go_num, by rw [hs.out, hno.out, eqT1, hsm]; simp, hbel2⟩
            case measure => simp [intOf]; omega
        · have hne : (xa != ya) = true := by simpa using hat
          refine wp_region_up (by kernel_rfl) (by kernel_rfl) ?_
          repeat (go_big_quiet_step (fail))
          refine wpQuiet_nil ?_
          intro w2 hw2
          have hb2 := up_below hw2
          clear hw2 hE x0 x1 x2 x3 x4 x5 x6 x7 y0 y1 y2 y3 y4 y5 y6 y7
          have hbel2 := hbel.trans (hb2.mono hbel.size)
          clear hb2 hbel
          go_wp2
          go_ret
          exact ⟨ret_bool (by rw [eqT_false (k + 1) (by omega) (by omega) (by rw [hs.out, eqT1]; simp [hat])]), hbel2⟩
      · obtain rfl : k = l.length := by omega
        rw [List.take_length, List.take_of_length_le hge] at hno
        go_wp2
        go_ret
        exact ⟨ret_bool hno.out.symm, hbel⟩
  · have hne := eqT_ne hlen
    have hb0 : (((l.length : Nat) : Int) != ((m.length : Nat) : Int)) = true := by simp; omega
    go_enter Tryz.func38, Tryz.ntmps38
    go_wp2
    go_ret
    exact ⟨ret_bool hne.symm, Below.refl _ _⟩
end Go.Proofs.YtbonjbokofkafaaGreat
/- What a client told, gathered in a row beside it. -/
namespace Go.Proofs.YtbonjbokofkafaaGreat
open Go.RowKit
set_option linter.unusedVariables false
theorem jk3 : ¬ JK 16 3 := by unfold JK; omega
section
variable {α : Type} (S : Shp α)
theorem flatG_app (l m : List α) : flatG S (l ++ m) = flatG S l ++ flatG S m := List.flatMap_append
theorem rdG.src {w : World} {v : Value} {l : List α} (h : rdS S.size (atG S) w v l) : srcRow w S.size v l.length (flatG S l) := by
  obtain ⟨a, cap, rfl, hm, hM, ha⟩ := h
  refine ⟨flatG_len S l, ?_⟩
  cases l with
  | nil =>
    cases a with
    | none => exact .inl ⟨cap, rfl, rfl⟩
    | some ad => exact .inr ⟨ad, cap, rfl, fun j u hu => by simp [flatG] at hu⟩
  | cons x l =>
    obtain ⟨b, off, rfl, hc⟩ := ha (by simp)
    refine .inr ⟨_, cap, rfl, fun j u hu => ?_⟩
    have hp := S.pos
    have hj : j < (x :: l).length * S.size := by rw [← flatG_len S]; exact (List.getElem?_eq_some_iff.1 hu).1
    have hd : j / S.size < (x :: l).length := Nat.div_lt_of_lt_mul (by rw [Nat.mul_comm]; exact hj)
    have hm2 : j % S.size < S.size := Nat.mod_lt _ hp
    have hdm : j / S.size * S.size + j % S.size = j := by rw [Nat.mul_comm]; exact Nat.div_add_mod j S.size
    have hf := flatG_get S (x :: l) (j / S.size) hd (j % S.size) hm2
    rw [hdm, hu] at hf
    have := hc (j / S.size) hd (j % S.size) u hf.symm
    rw [show (⟨b, off, none⟩ : Addr).add j = ⟨b, off + j, none⟩ by cases j <;> simp [Addr.add]]
    rw [Nat.add_assoc, hdm] at this
    exact this
end
/-- the row of what was told so far -/
structure PL (own : Nat → Nat) (w : World) (base : Nat) (v : Value) (l : List (Int × Ent)) : Prop where
  o : ownG tdShp w base 136 v l
  lab : ∀ k, v.ownBlock = some k → own k = 3
section
variable {own own' : Nat → Nat} {w0 w w' : World} {b dk c cb base : Nat} {s : Nd} {seen lost : Int} {v v' : Value} {l m : List (Int × Ent)}
theorem PL.nil : PL own w base (.slice none 0 0) [] := ⟨ownG_nil _ _ _ _, fun k hk => by cases hk⟩
theorem PL.keep (h : PL own w base v l) (k : KeepX own own' w w') : PL own' w' base v l :=
  ⟨h.o.same tdShp fun x hx => (k.keep x (h.o.lt tdShp x hx).2 (by rw [h.lab x hx]; exact jk3)).2, fun x hx => (k.keep x (h.o.lt tdShp x hx).2 (by rw [h.lab x hx]; exact jk3)).1.trans (h.lab x hx)⟩
theorem PL.keepC (h : PL own w base v l) (hc : own cb = 2) (k : KeepC cb own own' w w') : PL own' w' base v l :=
  ⟨h.o.same tdShp fun x hx => (k.keep x (h.o.lt tdShp x hx).2 (by rw [h.lab x hx]; exact jk3)).2 (fun e => by rw [← e, h.lab x hx] at hc; cases hc), fun x hx => (k.keep x (h.o.lt tdShp x hx).2 (by rw [h.lab x hx]; exact jk3)).1.trans (h.lab x hx)⟩
theorem PL.grow (h : PL own w base v l) (hb : Below w.heap.size w w') : PL own w' base v l := h.keep (.below hb)
theorem GX.three (h : GX own w0 w b dk c s) (ch : Chg (fun x => own x = 3) w w') : GX own w0 w' b dk c s := by
  obtain ⟨⟨hlow, hbel, a, hN, e1, e2, e3, e4⟩, m0, fu⟩ := h
  have t : Turn (fun i => i = 3) own own w w' := .same ch hN.wf
  have hN2 : NdO own 16 w' a s [] := ⟨t.pub hN.blk (by rw [hN.r.ob]; omega), hN.ears, hN.r.turn t (by omega) (by omega) (fun i hi => by omega)⟩
  have hb2 : Below w0.heap.size w0 w' := hbel.trans (ch.below (B := w0.heap.size) hbel.size fun k hk => Nat.le_of_not_lt fun hl => by have := hlow k hl; omega)
  exact ⟨⟨hlow, hb2, a, hN2, e1, e2, e3, e4⟩, m0, fu⟩
theorem PL.app (h : PL own w w0.heap.size v l) (g : GX own w0 w b dk c s) (x : CX own w cb b seen lost) (ho : w'.ownsRow w0.heap.size 136 8 v' (l.length + m.length) (flatG tdShp l ++ flatG tdShp m)) (hg : w.grownBy w' v.ownBlock)
    (hat : v'.ownBlock = v.ownBlock ∨ v'.ownBlock = some w.heap.size) : ∃ own', GX own' w0 w' b dk c s ∧ CX own' w' cb b seen lost ∧ PL own' w' w0.heap.size v' (l ++ m) := by
  have ch : Chg (fun x => own x = 3) w w' := chg_grown (Chg.refl _ _) hg fun k hk => .inl (h.lab k hk)
  have g1 := g.three ch
  have hcb : w'.heap[cb]? = w.heap[cb]? := ch.block cb (at_lt x.o) (by rw [x.ow]; decide)
  have x1 : CX own w' cb b seen lost := ⟨x.ow, by unfold ctO; rw [hcb]; exact x.o⟩
  have o1 : ownG tdShp w' w0.heap.size 136 v' (l ++ m) := by
    unfold ownG
    rw [List.length_append, flatG_app]
    exact ho
  rcases hat with e | e
  · exact ⟨own, g1, x1, ⟨o1, fun k hk => h.lab k (e ▸ hk)⟩⟩
  · obtain ⟨hl1, hl2⟩ := o1.lt tdShp _ e
    have hw : own w.heap.size = 0 := g.px.wf _ (Nat.le_refl _)
    refine ⟨labO own w.heap.size 3, g1.lab hw hl1 hl2 jk3, ⟨(labO_ne (by have := at_lt x.o; omega)).trans x.ow, x1.o⟩, ⟨o1, fun k hk => ?_⟩⟩
    rw [e] at hk
    cases hk
    exact labO_at _ _ _
end
end Go.Proofs.YtbonjbokofkafaaGreat
/- What is cast comes, is told once; what is refused is counted: the walk. -/
namespace Go.Proofs.YtbonjbokofkafaaGreat.lawClientAll
open Go.ChangeShapes Go.WideShapes Go.ChangeAt Go.RowKit
set_option linter.unusedVariables false
set_option maxRecDepth 100000 in
set_option maxHeartbeats 64000000 in
theorem walk (mm : Int) (v : Value) (l : List Op25) (w : World) (hmm : w.cell? ⟨0, 0, none⟩ = some (.int .i64 mm)) (hr : rdS 19 cOp25 w v l) (_ : True) :
    Calls Tryz.prog 4 #[v] w fun r w' => r = .returned (.bool true) ∧ Below w.heap.size w w' := by
  have hB := Lib.hid (b26_any w ⟨mm, hmm⟩)
  have mz := Lib.hid (⟨mm, hmm⟩ : ∃ m, w.cell? ⟨0, 0, none⟩ = some (.int .i64 m))
  clear hmm
  obtain ⟨a, cap, rfl, hcap, hM, ha⟩ := hr
  unfold maxLen at hM
  replace ha := Lib.hid ha
  go_enter Tryz.func4, Tryz.ntmps4
  go_wp2_with fail
  refine hB.out.mono ?_
  rintro r w1 ⟨rfl, hb1⟩
  obtain ⟨m, hm⟩ := mz.out
  have hT := Lib.hid (trio_any w1 ⟨m, by rw [hb1.cell (cell_lt hm)]; exact hm⟩)
  replace hb1 := Lib.hid hb1
  clear hB hm
  go_wp2_with fail
  refine hT.out.mono ?_
  rintro r w2 ⟨own2, b, dk, cb, rfl, g2, x2⟩
  have g2 := Lib.hid (show GX own2 w1 w2 b dk (40 + 10 * 0) B12 from g2)
  replace x2 := Lib.hid x2
  clear hT
  go_wp2
  go_loopw [6, 7, 8] (fun x6 x7 i wr => ∃ (k na : Nat) (S : Nd) (own : Nat → Nat) (lost : Int) (pv : Value), k ≤ l.length ∧ k ≤ 40 ∧ x6 = .int .i64 lost ∧ x7 = pv ∧ i = .int .i64 k ∧ GX own w1 wr b dk (40 + 10 * k) S ∧ CX own wr cb b na lost ∧ na ≤ S.td.length ∧ PL own wr w1.heap.size pv (S.td.take na) ∧ 0 ≤ lost ∧ lost ≤ k) (fun _ _ i _ => l.length - (intOf i).toNat)
  case atStart => exact ⟨0, 0, B12, own2, 0, _, Nat.zero_le _, Nat.zero_le _, rfl, rfl, rfl, g2.out, x2.out, Nat.zero_le _, PL.nil, Int.le_refl _, Int.le_refl _⟩
  case round =>
    obtain ⟨k, na, S, own, lost, pv, hk, hk40, rfl, hpv, rfl, gk, xk, hna, pk, hl0, hl1⟩ := hrel
    have hpv := hpv.symm
    subst hpv
    clear g2 x2
    by_cases hin : k < l.length ∧ k < 40
    · obtain ⟨hlt, hlt40⟩ := hin
      obtain ⟨g, off, rfl, hc⟩ := ha.out (by omega)
      have hck := cOp25.grow _ _ _ _ _ (hc k hlt) (hb1.out.trans (gk.px.bel.mono hb1.out.size))
      clear hc
      generalize l[k] = x at hck
      obtain ⟨kd, n, m0, m1, m2, m3, m4, m5, m6, m7, ma, ml, mc, m9, m10, m11, m12, fit, ord, lev, d⟩ := x
      obtain ⟨c0, c1, c2, c3, c4, c5, c6, c7, c8, c9, c10, c11, c12, c13, c14, c15, c16, c17, c18, hd, ho, hv⟩ := hck
      dsimp only at c0 c1 c2 c3 c4 c5 c6 c7 c8 c9 c10 c11 c12 c13 c14 c15 c16 c17 c18 hd ho hv
      have hrow : World.rangeAt wr g (off + k * 19) [.int .i64 kd, .int .i64 n, .int .i64 m0, .int .i64 m1, .int .i64 m2, .int .i64 m3, .int .i64 m4, .int .i64 m5, .int .i64 m6, .int .i64 m7, .slice ma ml mc, .int .i64 m9, .int .i64 m10, .int .i64 m11, .bool m12, .bool fit, .int .i64 ord, .int .i64 lev, .string d] := fun j u hj => by
        rcases j with _ | _ | _ | _ | _ | _ | _ | _ | _ | _ | _ | _ | _ | _ | _ | _ | _ | _ | _ | j
        all_goals (simp at hj)
        all_goals (subst hj)
        all_goals assumption
      have lgk := cell_lt c0
      clear c0 c1 c2 c3 c4 c5 c6 c7 c8 c9 c10 c11 c12 c13 c14 c15 c16 c17 c18
      replace hrow := Lib.hid hrow
      have hlen : decide ((k : Int) < (l.length : Int)) = true := decide_eq_true (by omega)
      have h40 : decide ((k : Int) < (40 : Int)) = true := decide_eq_true (by omega)
      replace gk := Lib.hid gk
      replace xk := Lib.hid xk
      replace pk := Lib.hid pk
      go_upto_region 12 with (fail)
      iterate 10 go_step
      refine wpList_load_mid rfl 39 _ rfl g (off + k * 19) rfl _ _ hrow.out Tryz.underlying39 rfl (by kernel_rfl) ?_
      go_simp
      iterate 3 go_step
      obtain ⟨nb, hnb⟩ : ∃ x, x = wr.heap.size := ⟨_, rfl⟩
      obtain ⟨W4, hW4⟩ : ∃ x, x = wr.alloc (.cells #[.int .i64 0, .int .i64 0, .int .i64 0, .int .i64 0, .int .i64 0, .int .i64 0, .int .i64 0, .int .i64 0, .int .i64 0, .int .i64 0, .slice none 0 0, .int .i64 0, .int .i64 0, .int .i64 0, .bool false, .bool false, .int .i64 0, .int .i64 0, .string ⟨#[]⟩] 39) := ⟨_, rfl⟩
      have hx4 : W4.heap[wr.heap.size]? = some _ := hW4 ▸ at_new _ _
      have hb4 : Below wr.heap.size wr W4 := hW4 ▸ (Below.refl _ _).alloc (Nat.le_refl _) _
      rw [← hW4, ← hnb]
      rw [← hnb] at hx4
      refine wpList_plain rfl (fun K hK => ?_)
      refine wp_store_row 39 _ _ rfl nb #[.int .i64 kd, .int .i64 n, .int .i64 m0, .int .i64 m1, .int .i64 m2, .int .i64 m3, .int .i64 m4, .int .i64 m5, .int .i64 m6, .int .i64 m7, .slice ma ml mc, .int .i64 m9, .int .i64 m10, .int .i64 m11, .bool m12, .bool fit, .int .i64 ord, .int .i64 lev, .string d] rfl rfl 39 _ hx4 (by kernel_rfl) rfl (by
        rw [Array.all_eq_true_iff_forall_mem]; intro u hu
        simp only [List.mem_toArray, List.mem_cons, List.not_mem_nil, or_false] at hu
        rcases hu with rfl | rfl | rfl | rfl | rfl | rfl | rfl | rfl | rfl | rfl | rfl | rfl | rfl | rfl | rfl | rfl | rfl | rfl | rfl <;> rfl) ?_
      refine hK _ _ ?_
      clear hK K
      obtain ⟨W5, hW5⟩ : ∃ x, x = W4.setRow nb #[.int .i64 kd, .int .i64 n, .int .i64 m0, .int .i64 m1, .int .i64 m2, .int .i64 m3, .int .i64 m4, .int .i64 m5, .int .i64 m6, .int .i64 m7, .slice ma ml mc, .int .i64 m9, .int .i64 m10, .int .i64 m11, .bool m12, .bool fit, .int .i64 ord, .int .i64 lev, .string d] := ⟨_, rfl⟩
      have hb5 : Below wr.heap.size wr W5 := hW5 ▸ hb4.trans ⟨rfl, rfl, rfl, by simp [World.setRow], fun k hk => setRow_other W4 nb k _ (by omega)⟩
      have hx5 : W5.heap[nb]? = some (.cells #[.int .i64 kd, .int .i64 n, .int .i64 m0, .int .i64 m1, .int .i64 m2, .int .i64 m3, .int .i64 m4, .int .i64 m5, .int .i64 m6, .int .i64 m7, .slice ma ml mc, .int .i64 m9, .int .i64 m10, .int .i64 m11, .bool m12, .bool fit, .int .i64 ord, .int .i64 lev, .string d] 39 (0, 0)) := hW5 ▸ setRow_heap _ _ _ _ _ _ hx4
      have y0 := cell_at hx5 0
      have y16 := cell_at hx5 16
      have y17 := cell_at hx5 17
      have y18 := cell_at hx5 18
      have z18 := free_at hx5 18
      have ln5 := at_lt hx5
      rw [← hW5]
      replace hx5 := Lib.hid hx5
      replace hb5 := Lib.hid hb5
      replace hnb := Lib.hid hnb
      clear hW5 hW4 hx4 hb4 hrow
      go_upto_block 2 with fail
      go_cut [6] from 44 to 74 (fun z wx => ∃ (S' : Nd) (own' : Nat → Nat) (lo' : Int), z = .int .i64 lo' ∧ GX own' w1 wx b dk (40 + 10 * (k + 1)) S' ∧ CX own' wx cb b na lo' ∧ TdLe S S' ∧ PL own' wx w1.heap.size pv (S.td.take na) ∧ 0 ≤ lo' ∧ lo' ≤ lost + 1)
      case first =>
        have g5 := gk.out.grow hb5.out
        have x5 := Lib.hid (xk.out.grow hb5.out)
        have p5 := Lib.hid (pk.out.grow hb5.out)
        have hm5 := Lib.hid (gk.out.px.bel)
        cases hk0 : (kd == (0 : Int))
        · cases hk1 : (kd == (1 : Int))
          · have b5 := hb5.out.size
            by_cases h20 : 20 < d.size
            · have hg20 : decide ((20 : Int) < (d.size : Int)) = true := decide_eq_true (by omega)
              replace g5 := Lib.hid g5
              go_upto_region 16 with (fail)
              obtain ⟨W6, hW6⟩ : ∃ x, x = W5.setCell ⟨nb, 18, none⟩ (.string (d.extract 0 20)) := ⟨_, rfl⟩
              rw [← hW6]
              have hnw : wr.heap.size ≤ nb := Nat.le_of_eq hnb.out.symm
              have hb6 : Below wr.heap.size wr W6 := by rw [hW6]; exact hb5.out.setCell hnw _
              have hx6 := set_at (o := 18) (u := .string (d.extract 0 20)) hx5.out
              rw [← hW6] at hx6
              have q16 : W6.cell? ⟨nb, 16, none⟩ = some (.int .i64 ord) := cell_at hx6 16
              have q17 : W6.cell? ⟨nb, 17, none⟩ = some (.int .i64 lev) := cell_at hx6 17
              have q18 : W6.cell? ⟨nb, 18, none⟩ = some (.string (d.extract 0 20)) := cell_at hx6 18
              clear hx6
              have ln6 := cell_lt q16
              have g7 := Lib.hid (gk.out.grow hb6)
              have x7 := Lib.hid (xk.out.grow hb6)
              have p7 := Lib.hid (pk.out.grow hb6)
              clear hW6 hb6 y0 y16 y17 y18 z18 x5 p5 g5
              have hC := cxCast g7.out x7.out hl0 (by omega) ord lev (d.extract 0 20)
              have htd := TdLe.cast S ord lev (d.extract 0 20)
              generalize hST : (S.cast ord lev (d.extract 0 20)).1 = S6 at hC htd
              generalize hER : (S.cast ord lev (d.extract 0 20)).2 = er at hC
              replace hC := Lib.hid hC
              replace htd := Lib.hid htd
              clear hST hER
              go_wp2_with fail
              refine hC.out.mono ?_
              rintro r w6 ⟨own6, rfl, g6, x6, k6⟩
              have p6 := Lib.hid (p7.out.keepC x7.out.ow k6)
              have g6 := Lib.hid (g6.up (show 40 + 10 * k ≤ 40 + 10 * (k + 1) by omega))
              replace x6 := Lib.hid x6
              clear hC k6
              cases her : (er != (0 : Int))
              · have h0 : er = 0 := by simpa using her
                subst h0
                go_wp2
                go_meet
                exact ⟨S6, own6, lost, rfl, g6.out, x6.out, htd.out, p6.out, hl0, by omega⟩
              · have h0 : ¬ er = 0 := by simpa using her
                have x8 := x6.out
                rw [if_neg h0] at x8
                replace x8 := Lib.hid x8
                go_wp2
                go_meet
                exact ⟨S6, own6, lost + 1, rfl, g6.out, x8.out, htd.out, p6.out, by omega, by omega⟩
            · have hg20 : decide ((20 : Int) < (d.size : Int)) = false := decide_eq_false (by omega)
              have hC := cxCast g5 x5.out hl0 (by omega) ord lev d
              have htd := TdLe.cast S ord lev d
              generalize hST : (S.cast ord lev d).1 = S6 at hC htd
              generalize hER : (S.cast ord lev d).2 = er at hC
              replace hC := Lib.hid hC
              replace htd := Lib.hid htd
              replace g5 := Lib.hid g5
              clear hST hER
              go_wp2_with fail
              refine hC.out.mono ?_
              rintro r w6 ⟨own6, rfl, g6, x6, k6⟩
              have p6 := Lib.hid (p5.out.keepC x5.out.ow k6)
              have g6 := Lib.hid (g6.up (show 40 + 10 * k ≤ 40 + 10 * (k + 1) by omega))
              replace x6 := Lib.hid x6
              clear hC k6
              cases her : (er != (0 : Int))
              · have h0 : er = 0 := by simpa using her
                subst h0
                go_wp2
                go_meet
                exact ⟨S6, own6, lost, rfl, g6.out, x6.out, htd.out, p6.out, hl0, by omega⟩
              · have h0 : ¬ er = 0 := by simpa using her
                have x7 := x6.out
                rw [if_neg h0] at x7
                replace x7 := Lib.hid x7
                go_wp2
                go_meet
                exact ⟨S6, own6, lost + 1, rfl, g6.out, x7.out, htd.out, p6.out, by omega, by omega⟩
          · have hcall := Lib.hid (gxTick g5 (by omega))
            have hout := Lib.hid (g5.fu.ok.tickM g5.fu.mn (by omega))
            have htd := Lib.hid (TdLe.tick S)
            replace g5 := Lib.hid g5
            go_wp2_with fail
            refine hcall.out.mono ?_
            rintro r w6 ⟨v6, own6, o6, rfl, g6, k6, q6, e6⟩
            have x6 := Lib.hid (x5.out.keep k6)
            have p6 := Lib.hid (p5.out.keep k6)
            have hA := Lib.hid (acks_any g6 v6 o6 _ q6 e6 (nums_of hout.out.2) (by have := hout.out.1; omega) (by omega))
            clear hcall k6 q6 e6 g6
            go_wp2_with fail
            refine hA.out.mono ?_
            rintro r w7 ⟨rfl, own7, g7, k7⟩
            have g7 := Lib.hid (g7.up (show _ ≤ 40 + 10 * (k + 1) by have := hout.out.1; omega))
            have x7 := Lib.hid (x6.out.keep k7)
            have p7 := Lib.hid (p6.out.keep k7)
            have htd7 := Lib.hid (htd.out.trans (TdLe.acks S.tick.2 S.tick.1))
            clear hA k7
            go_wp2
            go_meet
            exact ⟨_, own7, lost, rfl, g7.out, x7.out, htd7.out, p7.out, hl0, by omega⟩
        · have hcall := Lib.hid (gxTick g5 (by omega))
          have htd := Lib.hid (TdLe.tick S)
          replace g5 := Lib.hid g5
          go_wp2_with fail
          refine hcall.out.mono ?_
          rintro r w6 ⟨v6, own6, o6, rfl, g6, k6, q6, e6⟩
          have x6 := Lib.hid (x5.out.keep k6)
          have p6 := Lib.hid (p5.out.keep k6)
          have g6 := Lib.hid (g6.up (show _ ≤ 40 + 10 * (k + 1) by omega))
          clear hcall k6 q6 e6
          go_wp2
          go_meet
          exact ⟨_, own6, lost, rfl, g6.out, x6.out, htd.out, p6.out, hl0, by omega⟩
      case rest =>
        obtain ⟨S6, own6, lo6, rfl, g6, x6, td6, p6, hlo0, hlo1⟩ := hcut
        replace g6 := Lib.hid g6
        replace x6 := Lib.hid x6
        replace p6 := Lib.hid p6
        replace td6 := Lib.hid td6
        clear gk xk pk hx5 hb5
        obtain ⟨T, hT⟩ : ∃ T, T = S6.td.length := ⟨_, rfl⟩
        have hTB : T ≤ 30000 := by have := g6.out.fu.ok.tdl; omega
        have hna6 : na ≤ T := by have := td6.out.len; omega
        have e6 : S.td.take na = S6.td.take na := by obtain ⟨z, hz⟩ := td6.out; rw [hz, List.take_append_of_le_length hna]
        rw [e6] at p6
        go_upto_if 77 with (fail)
        go_cut [7] from 77 to 81 (fun z wx => ∃ (own7 : Nat → Nat) (n7 : Nat), GX own7 w1 wx b dk (40 + 10 * (k + 1)) S6 ∧ CX own7 wx cb b n7 lo6 ∧ n7 ≤ S6.td.length ∧ PL own7 wx w1.heap.size z (S6.td.take n7))
        case first =>
          have hP := Lib.hid (cxPoll g6.out x6.out (by omega) (by rw [← hT]; exact hna6))
          obtain ⟨i0, hi, hz0, hz1, hz2⟩ := info_parts infoTold
          replace hi := Lib.hid hi
          replace hz0 := Lib.hid hz0
          replace hz1 := Lib.hid hz1
          replace hz2 := Lib.hid hz2
          go_wp2_with fail
          · refine hP.out.mono ?_
            rintro r w8 ⟨v8, rfl, g8, x8, k8, r8, f8⟩
            have p8 := p6.out.keepC x6.out.ow k8
            have s8 := rdG.src tdShp r8
            have o8 := p8.o
            unfold ownG at o8
            have hl8 : (S6.td.take na).length = na := by rw [List.length_take]; omega
            have hd8 : (S6.td.drop na).length = T - na := by rw [List.length_drop, hT]
            rw [hd8] at s8
            rw [hl8] at o8
            have hbs := g8.px.bel.size
            replace g8 := Lib.hid g8
            replace x8 := Lib.hid x8
            replace p8 := Lib.hid p8
            replace s8 := Lib.hid s8
            replace o8 := Lib.hid o8
            replace hl8 := Lib.hid hl8
            replace hd8 := Lib.hid hd8
            replace hT := Lib.hid hT
            clear hP k8 r8 f8
            go_wp2_with (at_builtin; refine wpList_src rfl (.tmp 78) (.tmp 80) 34 rfl w1.heap.size 136 i0 _ 8 72 Tryz.underlying34 hi.out hz0.out hz1.out hz2.out rfl (by decide) pv na (flatG tdShp (S6.td.take na)) rfl o8.out v8 (T - na) (flatG tdShp (S6.td.drop na)) rfl s8.out (flatG_one tdShp _) (by unfold maxLen; omega) (by omega) hbs ?_; intro v9 w9 ho9 hg9 ha9; replace ho9 := Lib.hid ho9; replace hg9 := Lib.hid hg9; replace ha9 := Lib.hid ha9)
            obtain ⟨own9, g9, x9, p9⟩ := p8.out.app g8.out x8.out (m := S6.td.drop na) (by rw [hl8.out, hd8.out]; exact ho9.out) hg9.out ha9.out
            rw [List.take_append_drop] at p9
            go_meet
            exact ⟨own9, S6.td.length, g9, x9, Nat.le_refl _, by rw [List.take_length]; exact p9⟩
          · go_meet
            exact ⟨own6, na, g6.out, x6.out, by rw [← hT]; exact hna6, p6.out⟩
        case rest =>
          obtain ⟨own7, n7, g7, x7, hn7, p7⟩ := hcut
          have hS := cxStatus g7 x7 (by omega)
          obtain ⟨v1, v2, v3, hv⟩ : ∃ v1 v2 v3, S6.view = (v1, v2, v3) := ⟨_, _, _, rfl⟩
          have hin3 : v3 = S6.in_ := by rw [← view_in, hv]
          obtain ⟨gd, hgd⟩ : ∃ g, g = S6.good := ⟨_, rfl⟩
          obtain ⟨nL, hnL⟩ : ∃ g, g = S6.L.length := ⟨_, rfl⟩
          obtain ⟨nC, hnC⟩ : ∃ g, g = S6.com := ⟨_, rfl⟩
          obtain ⟨nP, hnP⟩ : ∃ g, g = S6.pend.length := ⟨_, rfl⟩
          unfold stV at hS
          rw [hv, ← hgd, ← hnL, ← hnC, ← hnP, ← hT] at hS
          have hnLB : nL ≤ 1000000 := by have := g7.fu.ok.lg; rw [← hnL] at this; omega
          replace hS := Lib.hid hS
          replace hin3 := Lib.hid hin3
          replace hgd := Lib.hid hgd
          replace hnL := Lib.hid hnL
          replace hnC := Lib.hid hnC
          replace hnP := Lib.hid hnP
          replace hT := Lib.hid hT
          replace hv := Lib.hid hv
          replace g7 := Lib.hid g7
          replace x7 := Lib.hid x7
          replace p7 := Lib.hid p7
          clear g6 x6 p6
          go_wp2_with fail
          refine hS.out.mono ?_
          rintro r w8 ⟨rfl, hb8⟩
          have g8 := g7.out.grow hb8
          have x8 := x7.out.grow hb8
          have p8 := p7.out.grow hb8
          obtain ⟨sb, hsb⟩ : ∃ x, x = w8.heap.size := ⟨_, rfl⟩
          obtain ⟨w9, hw9⟩ : ∃ x, x = w8.alloc (.cells #[.bool true, .bool v3, .bool gd, .int .i64 v1, .int .i64 nL, .int .i64 nC, .int .i64 T, .int .i64 nP] 47) := ⟨_, rfl⟩
          have hx9 : w9.heap[w8.heap.size]? = some _ := hw9 ▸ at_new _ _
          have hb9 : Below w8.heap.size w8 w9 := hw9 ▸ (Below.refl _ _).alloc (Nat.le_refl _) _
          have g9 := g8.grow hb9
          have hV := gxView g9
          rw [hv.out] at hV
          rw [← hsb] at hx9
          replace hV := Lib.hid hV
          replace g9 := Lib.hid g9
          have x9 := Lib.hid (x8.grow hb9)
          have p9 := Lib.hid (p8.grow hb9)
          replace hx9 := Lib.hid hx9
          clear g8 x8 p8 hS hb8 hb9
          go_wp2_with fail
          rw [← hw9, ← hsb]
          replace hw9 := Lib.hid hw9
          replace hsb := Lib.hid hsb
          refine hV.out.mono ?_
          rintro r wa ⟨rfl, hba⟩
          have ga := Lib.hid (g9.out.grow hba)
          have xa := Lib.hid (x9.out.grow hba)
          have pa := Lib.hid (p9.out.grow hba)
          have hxa := Lib.hid (at_below hx9.out hba)
          clear hV g9 x9 p9 hx9 hba
          go_upto_region 26 with (fail)
          refine wp_region_ps (fun _ => False) (.q 0 (.q 1 (.q 2 (.q 3 (.q 4 (.q 5 (.q 6 (.q 7 (.q 8 (.q 9 (.q 10 (.q 11 (.q 12 (.q 13 (.q 14 (.q 15 (.q 16 (.q 17 (.q 18 (.l 19 (.q 20 (.q 21 (.q 22 (.q 23 (.q 24 (.q 25 (.l 26 (.q 27 (.q 28 (.q 29 (.q 30 (.q 31 (.q 32 (.q 33 (.l 34 (.q 35 (.q 36 (.q 37 (.q 38 (.q 39 (.q 40 (.l 41 (.q 42 (.q 43 (.q 44 (.q 45 (.q 46 (.q 47 (.q 48 (.l 49 (.q 50 (.q 51 (.q 52 (.q 53 (.q 55 (.l 54 (.q 56 (.q 57 .fin)))))))))))))))))))))))))))))))))))))))))))))))))))))))))) (by kernel_rfl) (by kernel_rfl) ?_
          intro wb hh hbb
          have gb := Lib.hid (ga.out.grow hbb)
          have xb := Lib.hid (xa.out.grow hbb)
          have pb := Lib.hid (pa.out.grow hbb)
          have hxb := at_below hxa.out hbb
          have u0 := upF_cell (F := fun _ => False) (b := wb) (fun h => h) (cell_at hxb 0)
          have u1 := upF_cell (F := fun _ => False) (b := wb) (fun h => h) (cell_at hxb 1)
          have u2 := upF_cell (F := fun _ => False) (b := wb) (fun h => h) (cell_at hxb 2)
          have u3 := upF_cell (F := fun _ => False) (b := wb) (fun h => h) (cell_at hxb 3)
          have u4 := upF_cell (F := fun _ => False) (b := wb) (fun h => h) (cell_at hxb 4)
          have u5 := upF_cell (F := fun _ => False) (b := wb) (fun h => h) (cell_at hxb 5)
          have u6 := upF_cell (F := fun _ => False) (b := wb) (fun h => h) (cell_at hxb 6)
          have u7 := upF_cell (F := fun _ => False) (b := wb) (fun h => h) (cell_at hxb 7)
          replace hxb := Lib.hid hxb
          replace hh := Lib.hid hh
          replace hbb := Lib.hid hbb
          have hGd := gxGood gb.out (by omega)
          rw [← hgd.out] at hGd
          replace hGd := Lib.hid hGd
          clear ga xa pa hxa
          iterate 19 (refine ps_q rfl ?_; go_big_quiet_step (fail); refine wpQuiet_nil ?_)
          refine ps_l rfl (by kernel_rfl) ?_
          intro K1 hK
          go_simp
          refine hGd.out.mono ?_
          rintro r wc1 ⟨rfl, bc1⟩
          refine hK _ _ (.of_below bc1) ?_
          clear hK K1 hGd
          have hLg := Lib.hid (gxLog (gb.out.grow bc1))
          replace bc1 := Lib.hid bc1
          iterate 6 (refine ps_q rfl ?_; go_big_quiet_step (fail); refine wpQuiet_nil ?_)
          refine ps_l rfl (by kernel_rfl) ?_
          intro K1 hK
          go_simp
          refine hLg.out.mono ?_
          rintro r wc2 ⟨vL, rfl, oL, bL⟩
          obtain ⟨aL, cL, rfl⟩ := oL.rd.len
          rw [← hnL.out]
          have bc2 := bc1.out.trans (bL.mono bc1.out.size)
          refine hK _ _ (.of_below bc2) ?_
          clear hK K1 hLg oL bL
          have hCm := gxCommit (gb.out.grow bc2)
          rw [← hnC.out] at hCm
          replace hCm := Lib.hid hCm
          replace bc2 := Lib.hid bc2
          iterate 7 (refine ps_q rfl ?_; go_big_quiet_step (fail); refine wpQuiet_nil ?_)
          refine ps_l rfl (by kernel_rfl) ?_
          intro K1 hK
          go_simp
          refine hCm.out.mono ?_
          rintro r wc3 ⟨rfl, rfl⟩
          refine hK _ _ (.of_below bc2.out) ?_
          clear hK K1 hCm
          have hTd := Lib.hid (gxTold (gb.out.grow bc2.out) (by omega))
          iterate 6 (refine ps_q rfl ?_; go_big_quiet_step (fail); refine wpQuiet_nil ?_)
          refine ps_l rfl (by kernel_rfl) ?_
          intro K1 hK
          go_simp
          refine hTd.out.mono ?_
          rintro r wc4 ⟨vT, rfl, oT, bT⟩
          obtain ⟨aT, cT, rfl⟩ := oT.rd.len
          rw [← hT.out]
          have bc4 := bc2.out.trans (bT.mono bc2.out.size)
          refine hK _ _ (.of_below bc4) ?_
          clear hK K1 hTd oT bT
          have hWt := gxWaits (gb.out.grow bc4)
          rw [← hnP.out] at hWt
          replace hWt := Lib.hid hWt
          replace bc4 := Lib.hid bc4
          iterate 7 (refine ps_q rfl ?_; go_big_quiet_step (fail); refine wpQuiet_nil ?_)
          refine ps_l rfl (by kernel_rfl) ?_
          intro K1 hK
          go_simp
          refine hWt.out.mono ?_
          rintro r wc5 ⟨rfl, rfl⟩
          refine hK _ _ (.of_below bc4.out) ?_
          clear hK K1 hWt
          have hLo := Lib.hid (cxLost (xb.out.grow bc4.out))
          iterate 5 (refine ps_q rfl ?_; go_big_quiet_step (fail); refine wpQuiet_nil ?_)
          refine ps_l rfl (by kernel_rfl) ?_
          intro K1 hK
          go_simp
          refine hLo.out.mono ?_
          rintro r wd ⟨rfl, bd⟩
          have be := bc4.out.trans (bd.mono bc4.out.size)
          refine hK _ _ (.of_below be) ?_
          clear hK K1 hLo bd
          replace be := Lib.hid be
          iterate 2 (refine ps_q rfl ?_; go_big_quiet_step (fail); refine wpQuiet_nil ?_)
          refine ps_fin ?_
          clear u0 u1 u2 u3 u4 u5 u6 u7
          have gd2 := Lib.hid (gb.out.grow be.out)
          have xd := Lib.hid (xb.out.grow be.out)
          have pd := Lib.hid (pb.out.grow be.out)
          have hxd := Lib.hid (at_below hxb.out be.out)
          clear gb xb pb hxb be bc1 bc2 bc4 hbb hh
          obtain ⟨tv, tok, htk⟩ : ∃ x y, getT S6.tb nameA = (x, y) := ⟨_, _, rfl⟩
          have hG := cxGet gd2.out xd.out (by omega) nameA (by decide)
          have z2 := cell_at hxd.out 2
          cases v3
          · have hgt : S6.get nameA = (⟨#[]⟩, 6) := by unfold Nd.get; rw [← hin3.out]; rfl
            rw [hgt] at hG
            replace hG := Lib.hid hG
            replace hgt := Lib.hid hgt
            replace htk := Lib.hid htk
            have lz := at_lt hxd.out
            go_wp2_with fail
            refine hG.out.mono ?_
            rintro r we ⟨rfl, hbe⟩
            have ge := Lib.hid (gd2.out.grow hbe)
            have xe := Lib.hid (xd.out.grow hbe)
            have pe := Lib.hid (pd.out.grow hbe)
            have hxe := at_below hxd.out hbe
            have hTa := Lib.hid (gxTable ge.out)
            replace hxe := Lib.hid hxe
            clear hG hbe gd2 xd pd hxd z2 lz
            go_wp2_with fail
            refine hTa.out.mono ?_
            rintro r wf ⟨⟨q, tb, rfl, hTb⟩, rfl⟩
            have hTg := tGet_any q tb S6.tb nameA we hTb (by decide)
            rw [htk.out] at hTg
            replace hTg := Lib.hid hTg
            clear hTa hTb
            go_wp2_with fail
            refine hTg.out.mono ?_
            rintro r wf ⟨rfl, rfl⟩
            have gf := ge
            have xf := xe
            have pf := pe
            have hxf := hxe.out
            have z2 := cell_at hxf 2
            have lz := at_lt hxf
            have hG2 := cxGet gf.out xf.out (by omega) nameA (by decide)
            rw [hgt.out] at hG2
            replace hG2 := Lib.hid hG2
            replace hxf := Lib.hid hxf
            clear hTg ge xe pe hxe
            go_wp2_with fail
            refine hG2.out.mono ?_
            rintro r wg ⟨rfl, hbg⟩
            have gg := Lib.hid (gf.out.grow hbg)
            have xg := Lib.hid (xf.out.grow hbg)
            have pg := Lib.hid (pf.out.grow hbg)
            clear hG2 hbg gf xf pf hxf z2 lz
            go_wp2
            go_roundw
            case rel => exact ⟨k + 1, n7, S6, own7, lo6, _, by omega, by omega, rfl, rfl, by go_num, gg.out, xg.out, hn7, pg.out, hlo0, by omega⟩
            case measure => simp [intOf]; omega
          · cases gd
            · have hgt : S6.get nameA = (⟨#[]⟩, 7) := by unfold Nd.get; rw [← hin3.out, ← hgd.out]; rfl
              rw [hgt] at hG
              replace hG := Lib.hid hG
              replace hgt := Lib.hid hgt
              replace htk := Lib.hid htk
              have lz := at_lt hxd.out
              go_wp2_with fail
              refine hG.out.mono ?_
              rintro r we ⟨rfl, hbe⟩
              have ge := Lib.hid (gd2.out.grow hbe)
              have xe := Lib.hid (xd.out.grow hbe)
              have pe := Lib.hid (pd.out.grow hbe)
              have hxe := at_below hxd.out hbe
              have hTa := Lib.hid (gxTable ge.out)
              replace hxe := Lib.hid hxe
              clear hG hbe gd2 xd pd hxd z2 lz
              go_wp2_with fail
              refine hTa.out.mono ?_
              rintro r wf ⟨⟨q, tb, rfl, hTb⟩, rfl⟩
              have hTg := tGet_any q tb S6.tb nameA we hTb (by decide)
              rw [htk.out] at hTg
              replace hTg := Lib.hid hTg
              clear hTa hTb
              go_wp2_with fail
              refine hTg.out.mono ?_
              rintro r wf ⟨rfl, rfl⟩
              have gf := ge
              have xf := xe
              have pf := pe
              have hxf := hxe.out
              have z2 := cell_at hxf 2
              have lz := at_lt hxf
              have hG2 := cxGet gf.out xf.out (by omega) nameA (by decide)
              rw [hgt.out] at hG2
              replace hG2 := Lib.hid hG2
              replace hxf := Lib.hid hxf
              clear hTg ge xe pe hxe
              go_wp2_with fail
              refine hG2.out.mono ?_
              rintro r wg ⟨rfl, hbg⟩
              have gg := Lib.hid (gf.out.grow hbg)
              have xg := Lib.hid (xf.out.grow hbg)
              have pg := Lib.hid (pf.out.grow hbg)
              clear hG2 hbg gf xf pf hxf z2 lz
              go_wp2
              go_roundw
              case rel => exact ⟨k + 1, n7, S6, own7, lo6, _, by omega, by omega, rfl, rfl, by go_num, gg.out, xg.out, hn7, pg.out, hlo0, by omega⟩
              case measure => simp [intOf]; omega
            · cases tok
              · have hgt : S6.get nameA = (⟨#[]⟩, 8) := by unfold Nd.get; rw [← hin3.out, ← hgd.out, htk]; rfl
                rw [hgt] at hG
                replace hG := Lib.hid hG
                replace hgt := Lib.hid hgt
                replace htk := Lib.hid htk
                have lz := at_lt hxd.out
                go_wp2_with fail
                refine hG.out.mono ?_
                rintro r we ⟨rfl, hbe⟩
                have ge := Lib.hid (gd2.out.grow hbe)
                have xe := Lib.hid (xd.out.grow hbe)
                have pe := Lib.hid (pd.out.grow hbe)
                have hxe := at_below hxd.out hbe
                have hTa := Lib.hid (gxTable ge.out)
                replace hxe := Lib.hid hxe
                clear hG hbe gd2 xd pd hxd z2 lz
                go_wp2_with fail
                refine hTa.out.mono ?_
                rintro r wf ⟨⟨q, tb, rfl, hTb⟩, rfl⟩
                have hTg := tGet_any q tb S6.tb nameA we hTb (by decide)
                rw [htk.out] at hTg
                replace hTg := Lib.hid hTg
                clear hTa hTb
                go_wp2_with fail
                refine hTg.out.mono ?_
                rintro r wf ⟨rfl, rfl⟩
                have gf := ge
                have xf := xe
                have pf := pe
                have hxf := hxe.out
                have z2 := cell_at hxf 2
                have lz := at_lt hxf
                have hG2 := cxGet gf.out xf.out (by omega) nameA (by decide)
                rw [hgt.out] at hG2
                replace hG2 := Lib.hid hG2
                replace hxf := Lib.hid hxf
                clear hTg ge xe pe hxe
                go_wp2_with fail
                refine hG2.out.mono ?_
                rintro r wg ⟨rfl, hbg⟩
                have gg := Lib.hid (gf.out.grow hbg)
                have xg := Lib.hid (xf.out.grow hbg)
                have pg := Lib.hid (pf.out.grow hbg)
                clear hG2 hbg gf xf pf hxf z2 lz
                go_wp2
                go_roundw
                case rel => exact ⟨k + 1, n7, S6, own7, lo6, _, by omega, by omega, rfl, rfl, by go_num, gg.out, xg.out, hn7, pg.out, hlo0, by omega⟩
                case measure => simp [intOf]; omega
              · have hgt : S6.get nameA = (tv, 0) := by unfold Nd.get; rw [← hin3.out, ← hgd.out, htk]; rfl
                rw [hgt] at hG
                replace hG := Lib.hid hG
                replace hgt := Lib.hid hgt
                replace htk := Lib.hid htk
                have lz := at_lt hxd.out
                go_wp2_with fail
                refine hG.out.mono ?_
                rintro r we ⟨rfl, hbe⟩
                have ge := Lib.hid (gd2.out.grow hbe)
                have xe := Lib.hid (xd.out.grow hbe)
                have pe := Lib.hid (pd.out.grow hbe)
                have hxe := at_below hxd.out hbe
                have hTa := Lib.hid (gxTable ge.out)
                replace hxe := Lib.hid hxe
                clear hG hbe gd2 xd pd hxd z2 lz
                go_wp2_with fail
                refine hTa.out.mono ?_
                rintro r wf ⟨⟨q, tb, rfl, hTb⟩, rfl⟩
                have hTg := tGet_any q tb S6.tb nameA we hTb (by decide)
                rw [htk.out] at hTg
                replace hTg := Lib.hid hTg
                clear hTa hTb
                go_wp2_with fail
                refine hTg.out.mono ?_
                rintro r wf ⟨rfl, rfl⟩
                have gf := ge
                have xf := xe
                have pf := pe
                have hxf := hxe.out
                have z2 := cell_at hxf 2
                have lz := at_lt hxf
                have hG2 := cxGet gf.out xf.out (by omega) nameA (by decide)
                rw [hgt.out] at hG2
                replace hG2 := Lib.hid hG2
                replace hxf := Lib.hid hxf
                clear hTg ge xe pe hxe
                go_wp2_with fail
                refine hG2.out.mono ?_
                rintro r wg ⟨rfl, hbg⟩
                have gg := Lib.hid (gf.out.grow hbg)
                have xg := Lib.hid (xf.out.grow hbg)
                have pg := Lib.hid (pf.out.grow hbg)
                clear hG2 hbg gf xf pf hxf z2 lz
                go_wp2
                go_roundw
                case rel => exact ⟨k + 1, n7, S6, own7, lo6, _, by omega, by omega, rfl, rfl, by go_num, gg.out, xg.out, hn7, pg.out, hlo0, by omega⟩
                case measure => simp [intOf]; omega
    · rcases (show ¬ k < l.length ∨ (k < l.length ∧ ¬ k < 40) by omega) with hnl | ⟨hyl, hn40⟩
      · have hd1 : decide ((k : Int) < (l.length : Int)) = false := decide_eq_false (by omega)
        obtain ⟨T, hT⟩ : ∃ T, T = S.td.length := ⟨_, rfl⟩
        have hTB : T ≤ 30000 := by have := gk.fu.ok.tdl; omega
        have hP := Lib.hid (cxPoll gk xk (by omega) hna)
        have how := xk.ow
        obtain ⟨i0, hi, hz0, hz1, hz2⟩ := info_parts infoTold
        replace hi := Lib.hid hi
        replace hz0 := Lib.hid hz0
        replace hz1 := Lib.hid hz1
        replace hz2 := Lib.hid hz2
        rw [← hT] at hna
        replace hT := Lib.hid hT
        replace how := Lib.hid how
        replace pk := Lib.hid pk
        clear gk xk
        go_wp2_with fail
        refine hP.out.mono ?_
        rintro r w8 ⟨v8, rfl, g8, x8, k8, r8, f8⟩
        have p8 := pk.out.keepC how.out k8
        have s8 := rdG.src tdShp r8
        have o8 := p8.o
        unfold ownG at o8
        have hl8 : (S.td.take na).length = na := by rw [List.length_take, ← hT.out]; omega
        have hd8 : (S.td.drop na).length = T - na := by rw [List.length_drop, hT.out]
        rw [hd8] at s8
        rw [hl8] at o8
        have hbs := g8.px.bel.size
        replace g8 := Lib.hid g8
        replace x8 := Lib.hid x8
        replace p8 := Lib.hid p8
        replace s8 := Lib.hid s8
        replace o8 := Lib.hid o8
        replace hl8 := Lib.hid hl8
        replace hd8 := Lib.hid hd8
        clear hP k8 r8 f8
        go_wp2_with (first | (at_builtin; refine wpList_src rfl (.tmp 194) (.tmp 196) 34 rfl w1.heap.size 136 i0 _ 8 72 Tryz.underlying34 hi.out hz0.out hz1.out hz2.out rfl (by decide) pv na (flatG tdShp (S.td.take na)) rfl o8.out v8 (T - na) (flatG tdShp (S.td.drop na)) rfl s8.out (flatG_one tdShp _) (by unfold maxLen; omega) (by omega) hbs ?_; intro v9 w9 ho9 hg9 ha9; replace ho9 := Lib.hid ho9; replace hg9 := Lib.hid hg9; replace ha9 := Lib.hid ha9))
        obtain ⟨own9, g9, x9, p9⟩ := p8.out.app g8.out x8.out (m := S.td.drop na) (by rw [hl8.out, hd8.out]; exact ho9.out) hg9.out ha9.out
        rw [List.take_append_drop] at p9
        have hTo := Lib.hid (gxTold g9 (by omega))
        have h9b := g9.px.bel
        replace h9b := Lib.hid h9b
        replace p9 := Lib.hid p9
        refine hTo.out.mono ?_
        rintro r wa ⟨vT, rfl, oT, bT⟩
        have hE := r12EqTold_any v9 vT S.td S.td wa ((p9.out.grow bT).o.rd tdShp) (oT.rd tdShp)
        rw [eqT_refl] at hE
        replace hE := Lib.hid hE
        have hba := Lib.hid (hb1.out.trans ((h9b.out.trans (bT.mono h9b.out.size)).mono hb1.out.size))
        clear oT bT hTo
        go_wp2_with fail
        refine hE.out.mono ?_
        rintro r wb ⟨rfl, hbb⟩
        have hbe := hba.out.trans (hbb.mono hba.out.size)
        go_wp2
        go_ret
        exact ⟨rfl, hbe⟩
      · have hd1 : decide ((k : Int) < (l.length : Int)) = true := decide_eq_true (by omega)
        have hd2 : decide ((k : Int) < (40 : Int)) = false := decide_eq_false (by omega)
        obtain ⟨T, hT⟩ : ∃ T, T = S.td.length := ⟨_, rfl⟩
        have hTB : T ≤ 30000 := by have := gk.fu.ok.tdl; omega
        have hP := Lib.hid (cxPoll gk xk (by omega) hna)
        have how := xk.ow
        obtain ⟨i0, hi, hz0, hz1, hz2⟩ := info_parts infoTold
        replace hi := Lib.hid hi
        replace hz0 := Lib.hid hz0
        replace hz1 := Lib.hid hz1
        replace hz2 := Lib.hid hz2
        rw [← hT] at hna
        replace hT := Lib.hid hT
        replace how := Lib.hid how
        replace pk := Lib.hid pk
        clear gk xk
        go_wp2_with fail
        refine hP.out.mono ?_
        rintro r w8 ⟨v8, rfl, g8, x8, k8, r8, f8⟩
        have p8 := pk.out.keepC how.out k8
        have s8 := rdG.src tdShp r8
        have o8 := p8.o
        unfold ownG at o8
        have hl8 : (S.td.take na).length = na := by rw [List.length_take, ← hT.out]; omega
        have hd8 : (S.td.drop na).length = T - na := by rw [List.length_drop, hT.out]
        rw [hd8] at s8
        rw [hl8] at o8
        have hbs := g8.px.bel.size
        replace g8 := Lib.hid g8
        replace x8 := Lib.hid x8
        replace p8 := Lib.hid p8
        replace s8 := Lib.hid s8
        replace o8 := Lib.hid o8
        replace hl8 := Lib.hid hl8
        replace hd8 := Lib.hid hd8
        clear hP k8 r8 f8
        go_wp2_with (first | (at_builtin; refine wpList_src rfl (.tmp 194) (.tmp 196) 34 rfl w1.heap.size 136 i0 _ 8 72 Tryz.underlying34 hi.out hz0.out hz1.out hz2.out rfl (by decide) pv na (flatG tdShp (S.td.take na)) rfl o8.out v8 (T - na) (flatG tdShp (S.td.drop na)) rfl s8.out (flatG_one tdShp _) (by unfold maxLen; omega) (by omega) hbs ?_; intro v9 w9 ho9 hg9 ha9; replace ho9 := Lib.hid ho9; replace hg9 := Lib.hid hg9; replace ha9 := Lib.hid ha9))
        obtain ⟨own9, g9, x9, p9⟩ := p8.out.app g8.out x8.out (m := S.td.drop na) (by rw [hl8.out, hd8.out]; exact ho9.out) hg9.out ha9.out
        rw [List.take_append_drop] at p9
        have hTo := Lib.hid (gxTold g9 (by omega))
        have h9b := g9.px.bel
        replace h9b := Lib.hid h9b
        replace p9 := Lib.hid p9
        refine hTo.out.mono ?_
        rintro r wa ⟨vT, rfl, oT, bT⟩
        have hE := r12EqTold_any v9 vT S.td S.td wa ((p9.out.grow bT).o.rd tdShp) (oT.rd tdShp)
        rw [eqT_refl] at hE
        replace hE := Lib.hid hE
        have hba := Lib.hid (hb1.out.trans ((h9b.out.trans (bT.mono h9b.out.size)).mono hb1.out.size))
        clear oT bT hTo
        go_wp2_with fail
        refine hE.out.mono ?_
        rintro r wb ⟨rfl, hbb⟩
        have hbe := hba.out.trans (hbb.mono hba.out.size)
        go_wp2
        go_ret
        exact ⟨rfl, hbe⟩
end Go.Proofs.YtbonjbokofkafaaGreat.lawClientAll
