/- Lemmas of the proof: PkM. -/
import Derived.Test.YtphlcbbdpmkipaaGreatPkK
/- Runs of a process, by a check; the same messages. -/
namespace Go.Proofs.YtphlcbbdpmkipaaGreat
open Go.RowKit
set_option linter.unusedVariables false

theorem tickN_tick (s : Nd) : ∀ k, tickN s.tick.1 k = tickN s (k + 1)
  | 0 => rfl
  | k + 1 => by
    show (tickN s.tick.1 k).tick.1 = (tickN s (k + 1)).tick.1
    rw [tickN_tick s k]
/-- a check of the first states of a run -/
def runP (p : Nat → Nd → Bool) : Nat → Nat → Nd → Bool
  | 0, _, _ => true
  | k + 1, i, s => p i s && runP p k (i + 1) s.tick.1
theorem runP_spec (p : Nat → Nd → Bool) : ∀ (N i : Nat) (s : Nd), runP p N i s = true → ∀ k, k < N → p (i + k) (tickN s k) = true
  | 0, i, s, _ => fun k hk => by omega
  | N + 1, i, s, h => by
    unfold runP at h
    rw [Bool.and_eq_true] at h
    intro k hk
    cases k with
    | zero => exact h.1
    | succ k =>
      have := runP_spec p N (i + 1) s.tick.1 h.2 k (by omega)
      rw [tickN_tick, show i + 1 + k = i + (k + 1) by omega] at this
      exact this
theorem runP0 {p : Nat → Nd → Bool} {N : Nat} {s : Nd} (h : runP p N 0 s = true) (k : Nat) (hk : k < N) : p k (tickN s k) = true := by
  have := runP_spec p N 0 s h k hk
  rwa [Nat.zero_add] at this

/-! the same messages -/
def eqMs (a b : Ms) : Bool :=
  a.kind == b.kind && a.frm == b.frm && a.too == b.too && a.boot == b.boot && a.view == b.view && a.last == b.last && a.mem == b.mem && a.pos == b.pos && a.com == b.com && a.num == b.num && a.clock == b.clock && a.yes == b.yes && eqAll a.ents b.ents
def eqMsgs : List Ms → List Ms → Bool
  | [], [] => true
  | a :: l, b :: m => eqMs a b && eqMsgs l m
  | _, _ => false
theorem eqMsgs_len {l m : List Ms} (h : eqMsgs l m = true) : l.length = m.length := by
  induction l generalizing m with
  | nil => cases m with | nil => rfl | cons => simp [eqMsgs] at h
  | cons a l ih => cases m with
    | nil => simp [eqMsgs] at h
    | cons b m => simp [eqMsgs] at h; simp [ih h.2]
theorem eqMsgs_ne {l m : List Ms} (h : l.length ≠ m.length) : eqMsgs l m = false := by
  cases e : eqMsgs l m with
  | false => rfl
  | true => exact absurd (eqMsgs_len e) h
theorem eqMsgs_take {l m : List Ms} (k : Nat) (h : k < l.length) (h' : k < m.length) : eqMsgs (l.take (k + 1)) (m.take (k + 1)) = (eqMsgs (l.take k) (m.take k) && eqMs l[k] m[k]) := by
  induction k generalizing l m with
  | zero =>
    cases l with
    | nil => simp at h
    | cons a l => cases m with
      | nil => simp at h'
      | cons b m => simp [eqMsgs]
  | succ k ih =>
    cases l with
    | nil => simp at h
    | cons a l => cases m with
      | nil => simp at h'
      | cons b m =>
        simp only [List.take_succ_cons, eqMsgs, List.getElem_cons_succ]
        rw [ih (by simpa using h) (by simpa using h'), Bool.and_assoc]
theorem eqMsgs_false {l m : List Ms} (k : Nat) (h : k ≤ l.length) (h' : k ≤ m.length) (hf : eqMsgs (l.take k) (m.take k) = false) : eqMsgs l m = false := by
  induction k generalizing l m with
  | zero => simp [eqMsgs] at hf
  | succ k ih =>
    cases l with
    | nil => simp at h
    | cons a l => cases m with
      | nil => simp at h'
      | cons b m =>
        simp only [List.take_succ_cons, eqMsgs, Bool.and_eq_false_iff] at hf ⊢
        exact hf.imp id fun hf => ih (by simpa using h) (by simpa using h') hf

set_option maxRecDepth 100000 in
set_option maxHeartbeats 4000000 in
theorem r12EqMsg_any (x y : Ms) (sx sy : Option Addr) (cx cy : Nat) (w : World) (hx : rdE w (.slice sx x.ents.length cx) x.ents) (hy : rdE w (.slice sy y.ents.length cy) y.ents) :
    Calls Tryz.prog 59 #[msVal x (.slice sx x.ents.length cx), msVal y (.slice sy y.ents.length cy)] w fun r w' => r = .returned (.bool (eqMs x y)) ∧ Below w.heap.size w w' := by
  have hB : ∀ o1 o2, Below w.heap.size w ((w.alloc o1).alloc o2) := fun o1 o2 => ((Below.refl _ _).alloc (Nat.le_refl _) _).alloc (by simp) _
  have hB := Lib.hid hB
  have hE := Lib.hid fun w1 (hb : Below w.heap.size w w1) => r12EqAll_any _ _ _ _ w1 (hx.grow hb) (hy.grow hb)
  clear hx hy
  obtain ⟨k, f, t, b, vi, la, me, po, es, co, nu, cl, yy⟩ := x
  obtain ⟨k', f', t', b', vi', la', me', po', es', co', nu', cl', yy'⟩ := y
  simp only [eqMs] at hE ⊢
  go_enter Tryz.func59, Tryz.ntmps59
  go_wp2_with (go_at_call 81; refine (hE.out _ (hB.out _ _)).mono ?_; rintro r w1 ⟨rfl, hb1⟩; replace hb1 := Lib.hid ((hB.out _ _).trans (hb1.mono (hB.out _ _).size)))
  all_goals go_ret
  all_goals refine ⟨ret_bool ?_, by first | exact hb1.out | exact hB.out _ _⟩
  all_goals simp [*]

theorem ms_cells {w : World} {b o : Nat} {m : Ms} {a : Option Addr} {c : Nat} (h : atG msShp w b o ⟨m, a, c⟩) :
    w.cell? ⟨b, o, none⟩ = some (.int .i64 m.kind) ∧ w.cell? ⟨b, o + 1, none⟩ = some (.int .i64 m.frm) ∧ w.cell? ⟨b, o + 2, none⟩ = some (.int .i64 m.too) ∧ w.cell? ⟨b, o + 3, none⟩ = some (.int .i64 m.boot) ∧
    w.cell? ⟨b, o + 4, none⟩ = some (.int .i64 m.view) ∧ w.cell? ⟨b, o + 5, none⟩ = some (.int .i64 m.last) ∧ w.cell? ⟨b, o + 6, none⟩ = some (.int .i64 m.mem) ∧ w.cell? ⟨b, o + 7, none⟩ = some (.int .i64 m.pos) ∧
    w.cell? ⟨b, o + 8, none⟩ = some (.slice a m.ents.length c) ∧ w.cell? ⟨b, o + 9, none⟩ = some (.int .i64 m.com) ∧ w.cell? ⟨b, o + 10, none⟩ = some (.int .i64 m.num) ∧ w.cell? ⟨b, o + 11, none⟩ = some (.int .i64 m.clock) ∧ w.cell? ⟨b, o + 12, none⟩ = some (.bool m.yes) :=
  ⟨h 0 _ rfl, h 1 _ rfl, h 2 _ rfl, h 3 _ rfl, h 4 _ rfl, h 5 _ rfl, h 6 _ rfl, h 7 _ rfl, h 8 _ rfl, h 9 _ rfl, h 10 _ rfl, h 11 _ rfl, h 12 _ rfl⟩

set_option maxRecDepth 100000 in
set_option maxHeartbeats 8000000 in
theorem r12EqMsgs_any (v v2 : Value) (l m : List MsS) (w : World) (hr : rdS 13 (atG msShp) w v l) (hr2 : rdS 13 (atG msShp) w v2 m) (he : ∀ x ∈ l, rdE w x.s x.m.ents) (he2 : ∀ x ∈ m, rdE w x.s x.m.ents) :
    Calls Tryz.prog 22 #[v, v2] w fun r w' => r = .returned (.bool (eqMsgs (l.map MsS.m) (m.map MsS.m))) ∧ Below w.heap.size w w' := by
  obtain ⟨a, cap, rfl, hm, hM, ha⟩ := hr
  obtain ⟨a2, cap2, rfl, hm2, hM2, ha2⟩ := hr2
  unfold maxLen at hM hM2
  have ll : (l.map MsS.m).length = l.length := List.length_map _
  have lm : (m.map MsS.m).length = m.length := List.length_map _
  by_cases hlen : l.length = m.length
  · have hge : m.length ≤ l.length := by omega
    have hle : l.length ≤ m.length := by omega
    have hb0 : (((l.length : Nat) : Int) != ((m.length : Nat) : Int)) = false := by simp [hlen]
    clear hlen
    replace ha := Lib.hid ha
    replace ha2 := Lib.hid ha2
    replace he := Lib.hid he
    replace he2 := Lib.hid he2
    replace ll := Lib.hid ll
    replace lm := Lib.hid lm
    go_enter Tryz.func22, Tryz.ntmps22
    go_wp2
    go_loopw [5] (fun i wr => ∃ k : Nat, k ≤ l.length ∧ i = .int .i64 k ∧ eqMsgs ((l.map MsS.m).take k) ((m.map MsS.m).take k) = true ∧ Below w.heap.size w wr) (fun i _ => l.length - (intOf i).toNat)
    case atStart => exact ⟨0, Nat.zero_le _, rfl, rfl, Below.refl _ _⟩
    case round =>
      obtain ⟨k, hk, rfl, hno, hbel⟩ := hrel
      replace hno := Lib.hid hno
      by_cases hlt : k < l.length
      · have hlt2 : k < m.length := by omega
        obtain ⟨bl, off, rfl, hc⟩ := ha.out (by omega)
        obtain ⟨bl2, off2, rfl, hc2⟩ := ha2.out (by omega)
        have hck := (hc k hlt).grow msShp _ _ _ _ _ hbel
        have hck2 := (hc2 k hlt2).grow msShp _ _ _ _ _ hbel
        have hex := (he.out l[k] (List.getElem_mem hlt)).grow hbel
        have hey := (he2.out m[k] (List.getElem_mem hlt2)).grow hbel
        have hs := eqMsgs_take (l := l.map MsS.m) (m := m.map MsS.m) k (by rw [ll.out]; exact hlt) (by rw [lm.out]; exact hlt2)
        rw [List.getElem_map, List.getElem_map] at hs
        clear hc hc2
        generalize l[k] = x at hck hs hex
        generalize m[k] = y at hck2 hs hey
        obtain ⟨x, xa, xc⟩ := x
        obtain ⟨y, ya, yc⟩ := y
        replace hs := Lib.hid hs
        obtain ⟨c0, c1, c2, c3, c4, c5, c6, c7, c8, c9, c10, c11, c12⟩ := ms_cells hck
        obtain ⟨d0, d1, d2, d3, d4, d5, d6, d7, d8, d9, d10, d11, d12⟩ := ms_cells hck2
        replace hex := Lib.hid hex
        replace hey := Lib.hid hey
        clear hck hck2
        go_wp2
        go_still_tail 8, (by kernel_rfl)
        have hbel1 := hbel.drew
        have hsz := hbel1.size
        have hex1 := Lib.hid (hex.out.heap (w' := wr.drew) rfl)
        have hey1 := Lib.hid (hey.out.heap (w' := wr.drew) rfl)
        clear hbel c0 c1 c2 c3 c4 c5 c6 c7 c8 c9 c10 c11 c12 d0 d1 d2 d3 d4 d5 d6 d7 d8 d9 d10 d11 d12
        change wpList _ _ _ _ _ wr.drew
        generalize wr.drew = w2 at hbel1 hsz hex1 hey1 ⊢
        go_wp2_with fail
        refine (r12EqMsg_any x y xa ya xc yc _ hex1.out hey1.out).mono ?_
        rintro r w1 ⟨rfl, hb1⟩
        have hbel2 := hbel1.trans (hb1.mono hsz)
        clear hb1 hbel1
        cases hsm : eqMs x y
        · go_wp2
          go_ret
          exact ⟨ret_bool (by rw [eqMsgs_false (k + 1) (by rw [ll.out]; omega) (by rw [lm.out]; omega) (by rw [hs.out, hsm, Bool.and_false])]), hbel2⟩
        · go_wp2
          go_roundw
          case rel => exact ⟨k + 1, by omega, by go_num, by rw [hs.out, hno.out, hsm]; rfl, hbel2⟩
          case measure => simp [intOf]; omega
      · obtain rfl : k = l.length := by omega
        rw [List.take_of_length_le (by rw [ll.out]; exact Nat.le_refl _), List.take_of_length_le (by rw [lm.out]; exact hge)] at hno
        go_wp2
        go_ret
        exact ⟨ret_bool hno.out.symm, hbel⟩
  · have hne := eqMsgs_ne (l := l.map MsS.m) (m := m.map MsS.m) (by rw [ll, lm]; exact hlen)
    have hb0 : (((l.length : Nat) : Int) != ((m.length : Nat) : Int)) = true := by simp; omega
    go_enter Tryz.func22, Tryz.ntmps22
    go_wp2
    go_ret
    exact ⟨ret_bool hne.symm, Below.refl _ _⟩
end Go.Proofs.YtphlcbbdpmkipaaGreat
