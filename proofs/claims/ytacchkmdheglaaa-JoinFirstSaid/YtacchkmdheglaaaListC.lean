/- Contracts: a list of one's own; what a log tells. -/
import Derived.Test.YtacchkmdheglaaaListB
import Derived.Test.YtacchkmdheglaaaEntC
namespace Go.Proofs.Ytacchkmdheglaaa
open Go.RowKit
set_option linter.unusedVariables false

/-- the end of a slice -/
theorem rdE_drop {w : World} {b off n cap : Nat} {l : List Ent} (h : rdE w (.slice (some ⟨b, off, none⟩) n cap) l) (k : Nat) (hk : k < l.length) : rdE w (.slice (some ⟨b, off + k * 7, none⟩) (n - k) (cap - k)) (l.drop k) := by
  obtain ⟨a', cap', e, hm, hM, ha⟩ := h
  injection e with e1 e2 e3
  subst e1 e3 e2
  have hl : (l.drop k).length = l.length - k := by simp
  refine ⟨_, cap - k, by rw [hl], by omega, by omega, fun h0 => ?_⟩
  obtain ⟨b', off', e, hc⟩ := ha (by omega)
  injection e with e
  injection e with e1 e2
  subst e1 e2
  refine ⟨b, _, rfl, fun j hj => ?_⟩
  rw [List.getElem_drop]
  have := hc (k + j) (by omega)
  rw [Nat.add_mul, ← Nat.add_assoc] at this
  exact this

theorem flatE_one (l : List Ent) : ∀ u ∈ flatE l, u.oneCell' = true := by
  intro u hu
  obtain ⟨e, _, hu⟩ := List.mem_flatMap.1 hu
  exact news_one e u hu

theorem flatE_cells {w : World} {b off : Nat} {l : List Ent} (h : ∀ j (h : j < l.length), cellsE w b (off + j * 7) l[j]) :
    ∀ j u, (flatE l)[j]? = some u → w.cell? ((⟨b, off, none⟩ : Addr).add j) = some u := by
  intro j u hu
  have hj : j < l.length * 7 := by
    have := (List.getElem?_eq_some_iff.1 hu).1
    rw [flatE_len] at this; exact this
  have e : (⟨b, off, none⟩ : Addr).add j = ⟨b, off + j, none⟩ := by
    unfold Addr.add; split
    · next h => subst h; rfl
    · rfl
  rw [e]
  have hq : j / 7 < l.length := by omega
  have hc := h (j / 7) hq
  have hg := flatE_get l (j / 7) hq (j % 7) (by omega)
  rw [show j / 7 * 7 + j % 7 = j by omega, hu] at hg
  obtain ⟨c0, c1, c2, c3, c4, c5, c6⟩ := hc
  have hr : j % 7 = 0 ∨ j % 7 = 1 ∨ j % 7 = 2 ∨ j % 7 = 3 ∨ j % 7 = 4 ∨ j % 7 = 5 ∨ j % 7 = 6 := by omega
  rcases hr with hr | hr | hr | hr | hr | hr | hr <;> rw [hr] at hg <;> injection hg with hg <;> subst hg
  · rw [← c0]; congr 2; omega
  · rw [← c1]; congr 2; omega
  · rw [← c2]; congr 2; omega
  · rw [← c3]; congr 2; omega
  · rw [← c4]; congr 2; omega
  · rw [← c5]; congr 2; omega
  · rw [← c6]; congr 2; omega

set_option maxRecDepth 100000 in
set_option maxHeartbeats 400000 in
theorem sClone_any (v : Value) (l : List Ent) (w : World) (hr : rdE w v l) (hB : l.length ≤ 1000000) :
    Calls Try.prog 41 #[v] w fun r w' => ∃ v', r = .returned v' ∧ ownE w' w.heap.size 67 v' l ∧ Below w.heap.size w w' := by
  obtain ⟨i0, hi, hz0, hz1, hz2⟩ := info_parts infoEnt
  obtain ⟨a, cap, rfl, hm, hM, ha⟩ := hr
  unfold maxLen at hM
  cases a with
  | none =>
    have hl : l = [] := by
      cases l with
      | nil => rfl
      | cons x l => obtain ⟨_, _, h, _⟩ := ha (by simp); cases h
    subst hl
    have hnil := fun (w : World) => Lib.run_eql_slice_nil (P := Try.prog) w 28 67 none 0 cap 0 0 Try.underlying28
    clear ha
    go_enter Try.func41, Try.ntmps41
    go_wp2
    go_ret
    exact ⟨_, rfl, World.ownsRow_nil _ _ _ _, Below.refl _ _⟩
  | some x =>
    have hfc : ∀ j u, (flatE l)[j]? = some u → w.cell? (x.add j) = some u ∧ x.block < w.heap.size := by
      intro j u hu
      have hl : 0 < l.length := by
        cases l with
        | nil => simp [flatE] at hu
        | cons x l => simp
      obtain ⟨b, off, e, hc⟩ := ha hl
      injection e with e
      subst e
      exact ⟨flatE_cells hc j u hu, (hc 0 hl).lt⟩
    replace hfc := Lib.hid hfc
    clear ha
    have hfl := Lib.hid (flatE_len l)
    have hmade := World.ownsRow_made (base := w.heap.size) (e := 67) (size := 7) w #[] 0 (Nat.le_refl _) (Nat.zero_le _) rfl
    replace hmade := Lib.hid hmade
    have hnil := fun (w : World) => Lib.run_eql_slice_nil (P := Try.prog) w 28 67 (some x) l.length cap 0 0 Try.underlying28
    go_enter Try.func41, Try.ntmps41
    go_wp2_with (first
      | (at_builtin; refine wpList_append_own _ rfl _ _ 28 rfl w.heap.size 67 i0 (Ent.val ⟨0, 0, 0, 0, 0, 0, ByteArray.empty⟩) 7 64 Try.underlying28 hi hz0 hz1 hz2 rfl (by decide) _ _ _ rfl hmade.out x l.length cap (flatE l) rfl hfl.out ?c1 ?c2 ?c3 ?c4 ?c5 ?_))
    case c1 =>
      intro j u hu
      obtain ⟨h1, h2⟩ := hfc.out j u hu
      rw [← h1]
      exact ((Below.refl w.heap.size w).alloc (Nat.le_refl _) _).cell (by rw [show (x.add j).block = x.block by unfold Addr.add; split <;> rfl]; exact h2)
    case c2 => exact flatE_one l
    case c3 => unfold maxLen; omega
    case c4 => omega
    case c5 => simp
    intro v' w2 hown' hgrow _
    have ho : ownE w2 w.heap.size 67 v' l := hown'
    have hb2 : Below w.heap.size w w2 := ((Below.refl _ w).alloc (Nat.le_refl _) _).grown hgrow (by simp) (fun k hk => by simp [Value.ownBlock] at hk; omega)
    clear hown' hgrow
    go_wp2
    go_ret
    exact ⟨_, rfl, ho, hb2⟩

/-- what a pointer to a log reads as -/
def rdLog (w : World) (b : Nat) (l : List Ent) : Prop := ∃ v, w.cell? ⟨b, 0, none⟩ = some v ∧ rdE w v l

set_option maxRecDepth 100000 in
set_option maxHeartbeats 400000 in
theorem logLen_any (b : Nat) (l : List Ent) (w : World) (hr : rdLog w b l) :
    Calls Try.prog 40 #[.pointer (some ⟨b, 0, none⟩)] w fun r w' => r = .returned (.int .i64 l.length) ∧ w = w' := by
  obtain ⟨v, hv, hr⟩ := hr
  obtain ⟨a, cap, rfl⟩ := hr.len
  go_enter Try.func40, Try.ntmps40
  go_wp2
  go_ret
  exact ⟨rfl, rfl⟩

theorem rdLog.grow {w w' : World} {b : Nat} {l : List Ent} (h : rdLog w b l) (hb : Below w.heap.size w w') : rdLog w' b l := by
  obtain ⟨v, hv, hr⟩ := h
  refine ⟨v, ?_, hr.grow hb⟩
  rw [← hv]; exact hb.cell (cell_lt hv)

abbrev entZ : Ent := ⟨0, 0, 0, 0, 0, 0, ⟨#[]⟩⟩
abbrev boxZ (E : TypeId) : Obj := .cells #[.int .i64 0, .int .i64 0, .int .i64 0, .int .i64 0, .int .i64 0, .int .i64 0, .string ⟨#[]⟩] E

set_option maxRecDepth 100000 in
set_option maxHeartbeats 400000 in
theorem logAt_no (b : Nat) (l : List Ent) (i : Int) (w : World) (hr : rdLog w b l) (h : ¬ (1 ≤ i ∧ i ≤ l.length)) :
    Calls Try.prog 62 #[.pointer (some ⟨b, 0, none⟩), .int .i64 i] w fun r w' => r = .returned (.tuple #[entZ.val, .bool false]) ∧ Below w.heap.size w w' := by
  have hg := Lib.hid (hr.grow ((Below.refl _ w).alloc (Nat.le_refl _) (boxZ 67)))
  clear hr
  by_cases h1 : 1 ≤ i
  · have h2 : (l.length : Int) < i := by omega
    clear h
    go_enter Try.func62, Try.ntmps62
    go_wp2_with fail
    refine (logLen_any b l _ hg.out).mono ?_
    rintro r w1 ⟨rfl, rfl⟩
    go_wp2
    exact bodyPost_ret (v := .tuple #[.agg #[.int .i64 0, .int .i64 0, .int .i64 0, .int .i64 0, .int .i64 0, .int .i64 0, .string ⟨#[]⟩], .bool false]) (by simp [results, Try.results62, go_sem]) rfl ⟨rfl, by go_grown⟩
  · clear h
    go_enter Try.func62, Try.ntmps62
    go_wp2
    exact bodyPost_ret (v := .tuple #[.agg #[.int .i64 0, .int .i64 0, .int .i64 0, .int .i64 0, .int .i64 0, .int .i64 0, .string ⟨#[]⟩], .bool false]) (by simp [results, Try.results62, go_sem]) rfl ⟨rfl, by go_grown⟩

set_option maxRecDepth 100000 in
set_option maxHeartbeats 400000 in
theorem logAt_yes (b : Nat) (l : List Ent) (k : Nat) (w : World) (hr : rdLog w b l) (h : k < l.length) :
    Calls Try.prog 62 #[.pointer (some ⟨b, 0, none⟩), .int .i64 ((k : Int) + 1)] w fun r w' => r = .returned (.tuple #[l[k].val, .bool true]) ∧ Below w.heap.size w w' := by
  have hg := hr.grow ((Below.refl _ w).alloc (Nat.le_refl _) (boxZ 67))
  have hgg := Lib.hid hg
  clear hr
  obtain ⟨v, hv, a, cap, rfl, hm, hM, ha⟩ := hg
  unfold maxLen at hM
  obtain ⟨bl, off, rfl, hc⟩ := ha (by omega)
  have hck := hc k h
  clear ha hc
  generalize l[k] = x at hck
  have hbl := hck.lt
  obtain ⟨c0, c1, c2, c3, c4, c5, c6⟩ := hck
  obtain ⟨x0, x1, x2, x3, x4, x5, x6⟩ := x
  simp only [Ent.val]
  have hkk : ((k : Int) + 1 - 1).toNat = k := by omega
  go_enter Try.func62, Try.ntmps62
  go_wp2_with fail
  refine (logLen_any b l _ hgg.out).mono ?_
  rintro r w1 ⟨rfl, rfl⟩
  go_wp2
  exact bodyPost_ret (v := .tuple #[.agg #[.int .i64 x0, .int .i64 x1, .int .i64 x2, .int .i64 x3, .int .i64 x4, .int .i64 x5, .string x6], .bool true]) (by simp [results, Try.results62, go_sem]) rfl ⟨rfl, by go_grown⟩

/-- all behind a place -/
def fromE (l : List Ent) (at_ : Int) : List Ent := if at_ < 0 then [] else l.drop at_.toNat

set_option maxRecDepth 100000 in
set_option maxHeartbeats 400000 in
theorem logHas_any (b : Nat) (l : List Ent) (e : Ent) (w : World) (hr : rdLog w b l) :
    Calls Try.prog 61 #[.pointer (some ⟨b, 0, none⟩), e.val] w fun r w' => r = .returned (.bool (hasE l e)) ∧ Below w.heap.size w w' := by
  have hg := hr.grow ((Below.refl _ w).alloc (Nat.le_refl _) (.cells #[.int .i64 e.frm, .int .i64 e.boot, .int .i64 e.seq, .int .i64 e.ord, .int .i64 e.lev, .int .i64 e.stamp, .string e.data] 67))
  obtain ⟨v, hv, hr⟩ := hg
  have hx := Lib.hid hr
  clear hr
  have hbx := Lib.hid (box_cells w e 67)
  simp only [Ent.val]
  go_enter Try.func61, Try.ntmps61
  go_wp2_with fail
  refine (sContains_any v l e w.heap.size _ hx.out hbx.out).mono ?_
  rintro r w1 ⟨rfl, hb⟩
  go_wp2
  go_ret
  exact ⟨rfl, below_box _ hb⟩
end Go.Proofs.Ytacchkmdheglaaa
