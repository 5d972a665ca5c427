/- Lemmas of the proof: PkO. -/
import Derived.Test.YtphlcbbdpmkipaaGreatPkM
import Derived.Test.YtphlcbbdpmkipaaGreatPkN
/- What a process tells: its log, what it told. -/
namespace Go.Proofs.YtphlcbbdpmkipaaGreat
open Go.RowKit
set_option linter.unusedVariables false

theorem flatG_cells {α : Type} (S : Shp α) {w : World} {b off : Nat} {l : List α} (h : ∀ j (h : j < l.length), atG S w b (off + j * S.size) l[j]) :
    ∀ j u, (flatG S l)[j]? = some u → w.cell? ((⟨b, off, none⟩ : Addr).add j) = some u := by
  intro j u hu
  have hp := S.pos
  have hj : j < l.length * S.size := by
    have := (List.getElem?_eq_some_iff.1 hu).1
    rw [flatG_len] at this; exact this
  have e : (⟨b, off, none⟩ : Addr).add j = ⟨b, off + j, none⟩ := by
    unfold Addr.add; split
    · next h => subst h; rfl
    · rfl
  rw [e]
  have hq : j / S.size < l.length := Nat.div_lt_of_lt_mul (by rw [Nat.mul_comm]; exact hj)
  have hm : j % S.size < S.size := Nat.mod_lt _ hp
  have hdm : j / S.size * S.size + j % S.size = j := by rw [Nat.mul_comm]; exact Nat.div_add_mod j S.size
  have hg := flatG_get S l (j / S.size) hq (j % S.size) hm
  rw [hdm, hu] at hg
  have hc := h (j / S.size) hq (j % S.size) u hg.symm
  rw [Nat.add_assoc, hdm] at hc
  exact hc

theorem infoTold : (Tryz.prog.info? 178).map (fun i => (i.zero, i.size, i.bytes)) = some (some (.agg #[.int .i64 0, .int .i64 0, .int .i64 0, .int .i64 0, .int .i64 0, .int .i64 0, .int .i64 0, .string ByteArray.empty]), 8, 72) := by kernel_rfl

set_option maxRecDepth 100000 in
set_option maxHeartbeats 2000000 in
theorem sCloneT_any (v : Value) (l : Td) (w : World) (hr : rdS 8 (atG tdShp) w v l) (hB : l.length ≤ 1000000000) :
    Calls Tryz.prog 112 #[v] w fun r w' => ∃ v', r = .returned v' ∧ ownG tdShp w' w.heap.size 178 v' l ∧ Below w.heap.size w w' := by
  obtain ⟨i0, hi, hz0, hz1, hz2⟩ := info_parts infoTold
  obtain ⟨a, cap, rfl, hm, hM, ha⟩ := hr
  unfold maxLen at hM
  cases a with
  | none =>
    have hl : l = [] := by
      cases l with
      | nil => rfl
      | cons x l => obtain ⟨_, _, h, _⟩ := ha (by simp); cases h
    subst hl
    have hnil := fun (w : World) => Lib.run_eql_slice_nil (P := Tryz.prog) w 53 178 none 0 cap 0 0 Tryz.underlying53
    clear ha
    go_enter Tryz.func112, Tryz.ntmps112
    go_wp2
    go_ret
    exact ⟨_, rfl, ownG_nil _ _ _ _, Below.refl _ _⟩
  | some x =>
    have hfc : ∀ j u, (flatG tdShp l)[j]? = some u → w.cell? (x.add j) = some u ∧ x.block < w.heap.size := by
      intro j u hu
      have hl : 0 < l.length := by
        cases l with
        | nil => simp [flatG] at hu
        | cons x l => simp
      obtain ⟨b, off, e, hc⟩ := ha hl
      injection e with e
      subst e
      exact ⟨flatG_cells tdShp hc j u hu, (hc 0 hl).lt tdShp⟩
    replace hfc := Lib.hid hfc
    clear ha
    have hfl := Lib.hid (show (flatG tdShp l).length = l.length * 8 from flatG_len tdShp l)
    have hmade := World.ownsRow_made (base := w.heap.size) (e := 178) (size := 8) w #[] 0 (Nat.le_refl _) (Nat.zero_le _) rfl
    replace hmade := Lib.hid hmade
    have hnil := fun (w : World) => Lib.run_eql_slice_nil (P := Tryz.prog) w 53 178 (some x) l.length cap 0 0 Tryz.underlying53
    go_enter Tryz.func112, Tryz.ntmps112
    go_wp2_with (first
      | (at_builtin; refine wpList_append_own _ rfl _ _ 53 rfl w.heap.size 178 i0 (.agg #[.int .i64 0, .int .i64 0, .int .i64 0, .int .i64 0, .int .i64 0, .int .i64 0, .int .i64 0, .string ByteArray.empty]) 8 72 Tryz.underlying53 hi hz0 hz1 hz2 rfl (by decide) _ _ _ rfl hmade.out x l.length cap (flatG tdShp l) rfl hfl.out ?c1 ?c2 ?c3 ?c4 ?c5 ?_))
    case c1 =>
      intro j u hu
      obtain ⟨h1, h2⟩ := hfc.out j u hu
      rw [← h1]
      exact ((Below.refl w.heap.size w).alloc (Nat.le_refl _) _).cell (by rw [show (x.add j).block = x.block by unfold Addr.add; split <;> rfl]; exact h2)
    case c2 => exact flatG_one tdShp l
    case c3 => unfold maxLen; omega
    case c4 => omega
    case c5 => simp
    intro v' w2 hown' hgrow _
    have ho : ownG tdShp w2 w.heap.size 178 v' l := hown'
    have hb2 : Below w.heap.size w w2 := ((Below.refl _ w).alloc (Nat.le_refl _) _).grown hgrow (by simp) (fun k hk => by simp [Value.ownBlock] at hk; omega)
    clear hown' hgrow
    go_wp2
    go_ret
    exact ⟨_, rfl, ho, hb2⟩
set_option maxRecDepth 100000 in
theorem rdTold_any (b : Nat) (td : Td) (F : Nat → Prop) (w : World) (h : rqO w F b td) (hB : td.length ≤ 1000000000) :
    Calls Tryz.prog 62 #[.pointer (some ⟨b, 0, none⟩)] w fun r w' => ∃ v', r = .returned v' ∧ ownG tdShp w' w.heap.size 178 v' td ∧ Below w.heap.size w w' := by
  obtain ⟨hF, v, hb, ho, _⟩ := h
  have c0 : w.cell? ⟨b, 0, none⟩ = some v := cell_at hb 0
  have hl := at_lt hb
  have hr := Lib.hid (ho.rd tdShp)
  obtain ⟨a, c, rfl⟩ := hr.out.len
  clear hb ho
  go_enter Tryz.func62, Tryz.ntmps62
  go_wp2_with fail
  refine (sCloneT_any _ td _ hr.out hB).mono ?_
  rintro r w1 ⟨v', rfl, ho, hb⟩
  replace ho := Lib.hid ho
  replace hb := Lib.hid hb
  go_wp2
  go_ret
  exact ⟨_, rfl, ho.out, hb.out⟩
section
variable {own : Nat → Nat} {w0 w : World} {b dk : Nat} {s : Nd}
set_option maxRecDepth 100000 in
theorem pxTold (h : PX own w0 w b dk s) (hB : s.td.length ≤ 1000000000) : Calls Tryz.prog 28 #[ptr0 b] w fun r w' => ∃ v', r = .returned v' ∧ ownG tdShp w' w.heap.size 178 v' s.td ∧ Below w.heap.size w w' := by
  obtain ⟨a, hN, rfl, rfl, hod, hov⟩ := h.nd
  have c14 : w.cell? ⟨a.b, 14, none⟩ = some (ptr0 a.r) := hN.c 14
  have hl := hN.lt
  have hT := Lib.hid (rdTold_any a.r s.td _ w hN.r.rq hB)
  clear h hN
  go_enter Tryz.func28, Tryz.ntmps28
  go_wp2_with fail
  refine hT.out.mono ?_
  rintro r w1 ⟨v', rfl, ho, hb⟩
  replace ho := Lib.hid ho
  replace hb := Lib.hid hb
  go_wp2
  go_ret
  exact ⟨_, rfl, ho.out, hb.out⟩
set_option maxRecDepth 100000 in
theorem pxLog (h : PX own w0 w b dk s) (hB : s.L.length ≤ 1000000) : Calls Tryz.prog 27 #[ptr0 b] w fun r w' => ∃ v', r = .returned v' ∧ ownE w' w.heap.size 101 v' s.L ∧ Below w.heap.size w w' := by
  obtain ⟨a, hN, rfl, rfl, hod, hov⟩ := h.nd
  have c9 : w.cell? ⟨a.b, 9, none⟩ = some (ptr0 a.l) := hN.c 9
  have hl := hN.lt
  have hT := logFrom_any a.l s.L 0 w hN.r.lg.rd hB
  rw [fromE_0] at hT
  replace hT := Lib.hid hT
  clear h hN
  go_enter Tryz.func27, Tryz.ntmps27
  go_wp2_with fail
  refine hT.out.mono ?_
  rintro r w1 ⟨v', rfl, ho, hb⟩
  replace ho := Lib.hid ho
  replace hb := Lib.hid hb
  go_wp2
  go_ret
  exact ⟨_, rfl, ho.out, hb.out⟩
end
end Go.Proofs.YtphlcbbdpmkipaaGreat
/- A process that never decides: what it promised. -/
namespace Go.Proofs.YtphlcbbdpmkipaaGreat
open Go.RowKit
set_option linter.unusedVariables false

theorem cell8 {own : Nat → Nat} {w : World} {ad : Option Addr} {n cap : Nat} {o : List MsS} (h : pubM own w (.slice ad n cap) o) {l : List Ms} (e : o.map MsS.m = l) (g off : Nat) (ha : ad = some ⟨g, off, none⟩) (k : Nat) (hk : k < l.length) :
    ∃ a c, w.cell? ⟨g, off + k * 13 + 8, none⟩ = some (.slice a (l[k]).ents.length c) := by
  subst e
  obtain ⟨ad', cap', hv, _, _, hh⟩ := h.rd
  cases hv
  obtain ⟨g', off', e1, hc⟩ := hh (by rw [List.length_map] at hk; omega)
  rw [ha] at e1
  injection e1 with e1
  injection e1 with e2 e3
  subst e2; subst e3
  rw [List.length_map] at hk
  refine ⟨o[k].a, o[k].c, ?_⟩
  have := hc k hk 8 _ rfl
  rw [List.getElem_map]
  exact this

/-- what is known of the process -/
structure PrI (id n top : Int) (s : Nd) : Prop where
  kn : s.knows = true
  id_ : s.id = id
  n_ : s.n = n
  bare : Bare s
  last : s.last = 0
  mem : s.mem = 0
  dv : s.dv = top
  pf : s.pf.has = false
  td : s.td = []
  bo : s.boots.length = 8 ∧ ∀ j, s.boots.getD j 0 ≤ 1
  ok : Ok 0 s
theorem boots_set (bs : List Int) (k : Nat) (h : bs.length = 8 ∧ ∀ j, bs.getD j 0 ≤ 1) : (bs.set k 1).length = 8 ∧ ∀ j, (bs.set k 1).getD j 0 ≤ 1 := by
  refine ⟨by rw [List.length_set]; exact h.1, fun j => ?_⟩
  have hj := h.2 j
  rw [List.getD_eq_getElem?_getD] at hj ⊢
  rw [List.getElem?_set]
  split
  · next e =>
    subst e
    split
    · simp
    · simp
  · exact hj
theorem pr_make (id n : Int) (h3 : 3 ≤ n) (h7 : n ≤ 7) (i1 : 1 ≤ id) (i2 : id ≤ n) : PrI id n 0 (Nd.make id n 1 0) :=
  ⟨rfl, rfl, rfl, ⟨rfl, rfl, rfl⟩, rfl, rfl, rfl, rfl, rfl, ⟨rfl, fun j => by
    show eightZ.getD j 0 ≤ 1
    match j with
    | 0 | 1 | 2 | 3 | 4 | 5 | 6 | 7 => decide
    | n + 8 => show (0 : Int) ≤ 1; decide⟩, Ok.make h3 h7 i1 i2 (by omega) (by omega) (by omega) (by omega)⟩
theorem pr_hear {id n top : Int} {s : Nd} (h : PrI id n top s) (v : Int) (v1 : 1 ≤ v) (v2 : v ≤ 64) (t0 : 0 ≤ top) : ∃ s' r, s.hear (frM 1 (decT v n) id v) = (s', [r]) ∧ PrI id n (max top v) s' ∧ r.too = decT v n ∧
    (top ≤ v → r.kind = 3 ∧ r.view = v ∧ r.last = 0 ∧ r.ents = []) ∧ (v < top → r.kind = 2 ∧ r.view = top) ∧ Bare ((s.heard_ (frM 1 (decT v n) id v)).hear0 (frM 1 (decT v n) id v)).1 ∧ Ok 0 (s.heard_ (frM 1 (decT v n) id v)) := by
  obtain ⟨s1, hs1⟩ : ∃ s1, s1 = s.heard_ (frM 1 (decT v n) id v) := ⟨_, rfl⟩
  have h1 : PrI id n top s1 := by
    subst hs1
    exact ⟨h.kn, h.id_, h.n_, ⟨h.bare.L, h.bare.p, h.bare.c⟩, h.last, h.mem, h.dv, h.pf, h.td, boots_set _ _ h.bo, { h.ok with }⟩
  have e1 : s1.hear0 (frM 1 (decT v n) id v) = s1.proposed (frM 1 (decT v n) id v) := by
    unfold Nd.hear0
    rw [if_neg (by show ¬ ((1 : Int) == 12) = true; decide), if_neg (by rw [h1.kn]; decide)]
    rfl
  have e0 : ∀ x : Nd × List Ms, s1.proposed (frM 1 (decT v n) id v) = x → Bare x.1 → s.hear (frM 1 (decT v n) id v) = x ∧ Bare (s1.hear0 (frM 1 (decT v n) id v)).1 := fun x e hb => by
    refine ⟨?_, by rw [e1, e]; exact hb⟩
    unfold Nd.hear
    rw [if_neg (by
      show ¬ ((id != s.id) || decide ((1 : Int) < s.boots.getD (decT v n).toNat 0)) = true
      have := h.bo.2 (decT v n).toNat
      rw [h.id_]
      rw [bne_self_eq_false, Bool.false_or, decide_eq_true_eq]
      omega)]
    show (((s.heard_ (frM 1 (decT v n) id v)).hear0 (frM 1 (decT v n) id v)).1.settle, ((s.heard_ (frM 1 (decT v n) id v)).hear0 (frM 1 (decT v n) id v)).2) = x
    rw [← hs1, e1, e, settle_bare hb]
  have hp : s1.proposed (frM 1 (decT v n) id v) = if top < v then (({ s1 with dv := v, v := none, again := false, heard := s1.clock, pf := s1.pf.drop } : Nd), [({ s1 with dv := v, v := none, again := false, heard := s1.clock, pf := s1.pf.drop } : Nd).voteM (frM 1 (decT v n) id v)])
      else if v < top then (s1, [{ s1.ms 2 (decT v n) with view := top }]) else (s1, [s1.voteM (frM 1 (decT v n) id v)]) := by
    unfold Nd.proposed
    rw [if_neg (by rw [h1.n_]; show ¬ (decT v n != decT v n) = true; simp)]
    show (if s1.dv < v then (if 1099511627776 < v then _ else _) else if v < s1.dv ∨ v ≤ s1.last then _ else _) = _
    rw [h1.dv, h1.last, if_neg (show ¬ (1099511627776 < v) by omega)]
    by_cases g1 : top < v
    · rw [if_pos g1, if_pos g1]
    · rw [if_neg g1, if_neg g1]
      by_cases g2 : v < top
      · rw [if_pos (.inl g2), if_pos g2]
      · rw [if_neg (by omega), if_neg g2]
  rw [← hs1]
  by_cases g1 : top < v
  · rw [if_pos g1] at hp
    obtain ⟨e2, e3⟩ := e0 _ hp ⟨h1.bare.L, h1.bare.p, h1.bare.c⟩
    refine ⟨_, _, e2, ?_, rfl, fun _ => ⟨rfl, rfl, h1.last, h1.bare.L⟩, fun g => by omega, e3, h1.ok⟩
    rw [Int.max_eq_right (by omega)]
    exact ⟨h1.kn, h1.id_, h1.n_, ⟨h1.bare.L, h1.bare.p, h1.bare.c⟩, h1.last, h1.mem, rfl, rfl, h1.td, h1.bo, { h1.ok with
      d0 := by show 0 ≤ v; omega
      d1 := by show v ≤ 1099511627776; omega
      l1 := by show s1.last ≤ v; rw [h1.last]; omega
      h0 := h1.ok.c0
      h1 := Int.le_refl _
      qa := by show ([] : List (Int × Int)).length ≤ 64; simp
      vt := fun u l e => by cases e }⟩
  · rw [if_neg g1] at hp
    by_cases g2 : v < top
    · rw [if_pos g2] at hp
      obtain ⟨e2, e3⟩ := e0 _ hp h1.bare
      refine ⟨_, _, e2, ?_, rfl, fun g => by omega, fun _ => ⟨rfl, rfl⟩, e3, h1.ok⟩
      rw [Int.max_eq_left (by omega)]
      exact h1
    · rw [if_neg g2] at hp
      obtain ⟨e2, e3⟩ := e0 _ hp h1.bare
      refine ⟨_, _, e2, ?_, rfl, fun _ => ⟨rfl, rfl, h1.last, h1.bare.L⟩, fun g => by omega, e3, h1.ok⟩
      rw [Int.max_eq_left (by omega)]
      exact h1
theorem pr_may (id n v : Int) (h3 : 3 ≤ n) (h7 : n ≤ 7) (i1 : 1 ≤ id) (i2 : id ≤ n) (v1 : 1 ≤ v) (v2 : v ≤ 64) (hne : decT v n ≠ id) : MayM (frM 1 (decT v n) id v) ∧ 1 ≤ decT v n ∧ decT v n ≤ n := by
  have hd : decT v n = 1 + (v - 1) % n := if_neg (by omega)
  have h1 : 0 ≤ (v - 1) % n := Int.emod_nonneg _ (by omega)
  have h2 : (v - 1) % n < n := Int.emod_lt_of_pos _ (by omega)
  rw [hd] at hne ⊢
  generalize hq : (v - 1) % n = q at h1 h2 hne
  refine ⟨?_, by omega, by omega⟩
  refine ⟨?_, ?_, ?_, ?_, ?_, ?_, ?_, ?_, ?_, ?_, ?_, ?_, ?_, ?_, ?_, ?_, ?_, ?_, ?_, ?_, ?_, ?_, ?_, ?_, fun e he => by cases he⟩ <;> (first | (dsimp only; omega) | (simp; done) | (dsimp only; decide))


theorem fold_may : ∀ (es l : List Ent), (∀ e ∈ l, mayE e = true) → ∀ e ∈ es.foldl addE l, mayE e = true
  | [], l, h => h
  | x :: es, l, h => fold_may es (addE l x) fun e he => by
    unfold addE at he
    by_cases hx : okAdd l x = true
    · rw [if_pos hx] at he
      rcases List.mem_append.1 he with he | he
      · exact h e he
      · obtain rfl := List.mem_singleton.1 he
        unfold okAdd at hx
        simp only [Bool.and_eq_true] at hx
        exact hx.1.1.1
    · rw [if_neg hx] at he
      exact h e he
theorem logE_may (es : List Ent) : ∀ e ∈ logE es, mayE e = true := fold_may es [] fun e he => by cases he
/-- a word of an elder view changes nothing -/
theorem late_hear {id n top : Int} {s : Nd} (h : PrI id n top s) (m : Ms) (hk : m.kind = 4 ∨ m.kind = 5) (ht : m.too = id) (hb : m.boot = 1) (v1 : 1 ≤ m.view) (v2 : m.view < top) :
    s.hear m = (s.heard_ m, []) ∧ (s.heard_ m).hears m = (s.heard_ m, []) ∧ Bare ((s.heard_ m).hear0 m).1 ∧ PrI id n top (s.heard_ m) := by
  obtain ⟨s1, hs1⟩ : ∃ s1, s1 = s.heard_ m := ⟨_, rfl⟩
  have h1 : PrI id n top s1 := by
    subst hs1
    exact ⟨h.kn, h.id_, h.n_, ⟨h.bare.L, h.bare.p, h.bare.c⟩, h.last, h.mem, h.dv, h.pf, h.td, by rw [show (s.heard_ m).boots = s.boots.set m.frm.toNat 1 by rw [← hb]; rfl]; exact boots_set _ _ h.bo, { h.ok with }⟩
  have e2 : s1.hears m = (s1, []) := by
    rcases hk with hk | hk
    · have e : s1.hears m = s1.installed m := by unfold Nd.hears; rw [hk]; rfl
      rw [e]
      unfold Nd.installed
      by_cases hr : s1.right m = true
      · rw [hr, if_neg (by decide), if_neg (by rw [h1.dv]; omega), if_neg (by rw [h1.last]; omega)]
      · rw [if_pos (by simpa using hr)]
    · have e : s1.hears m = s1.append m := by unfold Nd.hears; rw [hk]; rfl
      rw [e]
      unfold Nd.append
      have hi : s1.in_ = false := by unfold Nd.in_; rw [h1.last]; simp
      rw [hi, if_pos (by simp)]
  have e1 : s1.hear0 m = (s1, []) := by
    unfold Nd.hear0
    rw [if_neg (by rcases hk with hk | hk <;> rw [hk] <;> decide), if_neg (by rw [h1.kn]; decide), e2]
  rw [← hs1]
  refine ⟨?_, e2, by rw [e1]; exact h1.bare, h1⟩
  unfold Nd.hear
  rw [if_neg (by
      have := h.bo.2 m.frm.toNat
      rw [h.id_, ht, hb, bne_self_eq_false, Bool.false_or, decide_eq_true_eq]
      omega)]
  show (((s.heard_ m).hear0 m).1.settle, ((s.heard_ m).hear0 m).2) = _
  rw [← hs1, e1, settle_bare h1.bare]
end Go.Proofs.YtphlcbbdpmkipaaGreat
