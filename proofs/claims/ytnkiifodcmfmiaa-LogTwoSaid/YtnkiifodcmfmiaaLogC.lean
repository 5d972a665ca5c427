/- Contract: entries are put into a log at a place. -/
import Derived.Test.YtnkiifodcmfmiaaPutP
import Derived.Deep.DeepCutAuto
namespace Go.Proofs.Ytnkiifodcmfmiaa
open Go.RowKit
set_option linter.unusedVariables false

theorem rdE_nil (w : World) (a : Option Addr) (c : Nat) (hc : c ≤ maxLen) : rdE w (.slice a 0 c) [] := ⟨a, c, rfl, Nat.zero_le _, hc, fun h => by simp at h⟩

/-- the first test of Put -/
theorem put_front {l : List Ent} {K : Nat} {es : List Ent} {n : Nat} (hn : n = min (l.length - K) es.length) (h : eqAll ((l.drop K).take n) (es.take n) = false) : putTo l K es es.length = none := by
  have : putTo l K es n = none := by rw [putTo_front (by omega) (by omega), h]; rfl
  exact putTo_none this (by omega)

set_option maxHeartbeats 1000000 in
theorem logPut_bad (b : Nat) (v2 : Value) (l es : List Ent) (k : Int) (w : World) (hr : rdLog w b l) (hr2 : rdE w v2 es) (h : k < 0 ∨ (l.length : Int) < k) :
    Calls Try.prog 18 #[.pointer (some ⟨b, 0, none⟩), .int .i64 k, v2] w fun r w' => r = .returned (.bool false) ∧ Below w.heap.size w w' := by
  obtain ⟨v, hv, hr⟩ := hr
  obtain ⟨a, cap, rfl⟩ := hr.len
  clear hr
  by_cases h0 : k < 0
  · clear h
    go_enter Try.func18, Try.ntmps18
    go_wp2
    go_ret
    exact ⟨rfl, Below.refl _ _⟩
  · have h1 : (l.length : Int) < k := by omega
    clear h
    go_enter Try.func18, Try.ntmps18
    go_wp2
    go_ret
    exact ⟨rfl, Below.refl _ _⟩

set_option maxHeartbeats 2000000 in
theorem logPut_in (b : Nat) (v2 : Value) (l es : List Ent) (K n : Nat) (F : Nat → Prop) (w : World) (hr : lgO w F b l) (hr2 : rdE w v2 es) (hK : K ≤ l.length) (hl : l.length ≤ 60) (hn : n = min (l.length - K) es.length) :
    Calls Try.prog 18 #[.pointer (some ⟨b, 0, none⟩), .int .i64 (K : Int), v2] w fun r w' => r = .returned (.bool (putTo l K es es.length).isSome) ∧ lgO w' (Gr F w w') b ((putTo l K es es.length).getD l) ∧ Chg F w w' := by
  have hrl := hr.rd
  obtain ⟨v, hv, hre⟩ := hrl
  obtain ⟨a, cap, rfl⟩ := hre.len
  have hre2 := Lib.hid hr2
  obtain ⟨a2, cap2, rfl, hm2, hM2, ha2⟩ := hr2
  have hcap := hre
  obtain ⟨_, _, he, hm, hM, _⟩ := hcap
  injection he with he1 he2 he3
  subst he1 he3
  clear he2
  unfold maxLen at hM2 hM
  have hn1 : n ≤ l.length - K := by omega
  have hn2 : n ≤ es.length := by omega
  have hcv := upTo_cell hv
  replace hre := Lib.hid hre
  replace hr := Lib.hid hr
  replace hn := Lib.hid hn
  clear ha2
  go_enter Try.func18, Try.ntmps18
  go_upto_region 3 with (fail)
  go_cut [7] (fun s wx => s = .int .i64 (n : Int) ∧ w = wx)
  case first =>
    by_cases hle : (l.length : Int) - (K : Int) ≤ (es.length : Int)
    · go_wp2_with fail
      go_meet
      exact ⟨by have := hn.out; congr 1; omega, rfl⟩
    · go_wp2_with fail
      go_meet
      exact ⟨by have := hn.out; congr 1; omega, rfl⟩
  case rest =>
    obtain ⟨rfl, rfl⟩ := hcut
    obtain ⟨q, hq⟩ : ∃ q, q = eqAll ((l.drop K).take n) (es.take n) := ⟨_, rfl⟩
    have hs2 : rdE w (.slice a2 n cap2) (es.take n) := rdE_take hre2.out n hn2
    have HE : ∀ X c, rdE w (.slice X n c) ((l.drop K).take n) → Hid (∀ z, Calls Try.prog 32 #[.slice X n c, .slice a2 n cap2, .func (.func 33) #[] #[]] (upTo w z) fun r w' => r = .returned (.bool q) ∧ ∃ y, w' = upTo w y) := fun X c h z => by
      rw [hq]; exact call_up (sEqualFunc_any _ _ _ _ _ (h.grow (upTo_below w z)) (hs2.grow (upTo_below w z)))
    replace HE := Lib.hid HE
    replace hq := Lib.hid hq
    replace hs2 := Lib.hid hs2
    go_upto_region 4 with (fail)
    go_cut [49] (fun s wx => s = .bool (!q) ∧ Below w.heap.size w wx)
    case first =>
      by_cases hn0 : 0 < n
      · obtain ⟨_, _, he, _, _, ha⟩ := hre.out
        injection he with he1 he2 he3
        subst he1 he3
        obtain ⟨bl, off, rfl, _⟩ := ha (by omega)
        have hd := rdE_take (rdE_drop hre.out K (by omega)) n (by simp; omega)
        have HE1 := HE.out _ _ hd
        have hne : ¬ cap = K := by omega
        clear ha hd
        refine wp_region_up (by kernel_rfl) (by kernel_rfl) ?_
        repeat (go_big_quiet_step ((go_at_call 32; exact HE1.out _)))
        refine wpQuiet_nil ?_
        intro w2 hw2
        have hb2 := up_below hw2
        clear hw2
        go_wp2_with fail
        go_meet
        exact ⟨rfl, hb2⟩
      · obtain rfl : n = 0 := by omega
        have HE1 : Hid (∀ X c, c ≤ 9223372036854775807 → ∀ z, Calls Try.prog 32 #[.slice X 0 c, .slice a2 0 cap2, .func (.func 33) #[] #[]] (upTo w z) fun r w' => r = .returned (.bool q) ∧ ∃ y, w' = upTo w y) := Lib.hid fun X c hc => (HE.out X c (by rw [List.take_zero]; exact rdE_nil w X c (by unfold maxLen; omega))).out
        obtain ⟨hFb, v0, hvb, hvo, hvF⟩ := hr.out
        have hv0 : v0 = .slice a l.length cap := by
          have : w.cell? ⟨b, 0, none⟩ = some v0 := by simp [World.cell?, hvb]
          rw [hv] at this; injection this with this; exact this.symm
        subst hv0
        rcases hvo.2 with ⟨hnil, hl0⟩ | ⟨g, cp, cur, hvg, _⟩
        · injection hnil with q1 q2 q3
          subst q1 q3
          obtain rfl : K = 0 := by omega
          rw [q2] at hcv
          clear hvb hvo hvF hn1 hK hm hv
          refine wp_region_up (by kernel_rfl) (by kernel_rfl) ?_
          repeat (go_big_quiet_step ((go_at_call 32; exact HE1.out _ _ (by omega) _)))
          refine wpQuiet_nil ?_
          intro w2 hw2
          have hb2 := up_below hw2
          clear hw2
          go_wp2_with fail
          go_meet
          exact ⟨rfl, hb2⟩
        · injection hvg with q1 q2 q3
          subst q1 q3
          clear hvb hvo hvF hv
          by_cases hne : cap = K
          · refine wp_region_up (by kernel_rfl) (by kernel_rfl) ?_
            repeat (go_big_quiet_step ((go_at_call 32; exact HE1.out _ _ (by omega) _)))
            refine wpQuiet_nil ?_
            intro w2 hw2
            have hb2 := up_below hw2
            clear hw2
            go_wp2_with fail
            go_meet
            exact ⟨rfl, hb2⟩
          · refine wp_region_up (by kernel_rfl) (by kernel_rfl) ?_
            repeat (go_big_quiet_step ((go_at_call 32; exact HE1.out _ _ (by omega) _)))
            refine wpQuiet_nil ?_
            intro w2 hw2
            have hb2 := up_below hw2
            clear hw2
            go_wp2_with fail
            go_meet
            exact ⟨rfl, hb2⟩
    case rest =>
      obtain ⟨rfl, hbc⟩ := hcut
      have hrc := hr.out.grow hbc
      cases q
      · have hnone := Lib.hid (put_front hn.out hq.out.symm)
        go_wp2
        go_ret
        rw [hnone.out]
        exact ⟨rfl, hr.out.end_ hbc⟩
      · have hsome : Hid (putTo l K es n = some l) := Lib.hid (by rw [putTo_front hn1 hn2, ← hq.out]; rfl)
        have hvc : wc.cell? ⟨b, 0, none⟩ = some (.slice a l.length cap) := by rw [← hv]; exact hbc.cell (cell_lt hv)
        have hrec := hre.out.grow hbc
        go_wp2_with fail
        refine (sClone_any _ l _ hrec (by omega)).mono ?_
        rintro r w3 ⟨v3, rfl, ho3, hb3⟩
        obtain ⟨a3, cap3, rfl⟩ := ho3.rd.len
        have hB3 := hbc.trans (hb3.mono hbc.size)
        have hlx : lgO (w3.alloc (.cells #[.slice a3 l.length cap3] 54)) (News w (w3.alloc (.cells #[.slice a3 l.length cap3] 54))) w3.heap.size l :=
          ⟨⟨hB3.size, by simp⟩, .slice a3 l.length cap3, heap_alloc_new w3 _, ownE_base (ownE_grow ho3 ((Below.refl _ _).alloc (Nat.le_refl _) _)) (Nat.zero_le _), fun k hk => ⟨by have := (ho3.lt k hk).1; have := hbc.size; omega, by have := (ho3.lt k hk).2; simp; omega⟩⟩
        have hB4 : Below w.heap.size w (w3.alloc (.cells #[.slice a3 l.length cap3] 54)) := hB3.alloc hB3.size _
        replace hlx := Lib.hid hlx
        replace hB4 := Lib.hid hB4
        clear hb3 hB3 hvc hrc hbc hrec ho3
        go_upto_region 7 with (fail)
        generalize hW4 : World.alloc w3 _ = w4
        rw [hW4] at hlx hB4
        clear hW4
        generalize w3.heap.size = bx at hlx ⊢
        go_cut [59, 60, 61] (fun s t u wx => (∃ X c, s = .slice X (es.length - n) c ∧ rdE w s (es.drop n)) ∧ t = .int .i64 ((es.length - n : Nat) : Int) ∧ u = .int .i64 0 ∧ w4 = wx)
        case first =>
          by_cases hlt : n < es.length
          · obtain ⟨_, _, he, _, _, ha⟩ := hre2.out
            injection he with he1 he2 he3
            subst he1 he3
            obtain ⟨bl, off, rfl, _⟩ := ha (by omega)
            have hd := Lib.hid (rdE_drop hre2.out n hlt)
            have hne : ¬ cap2 = n := by omega
            clear ha
            go_wp2_with fail
            go_meet
            exact ⟨⟨_, _, rfl, hd.out⟩, by congr 1 <;> omega, rfl, rfl⟩
          · have hz : es.drop n = [] := List.drop_eq_nil_of_le (by omega)
            have hnn : n = es.length := by omega
            have hz0 : es.length - n = 0 := by omega
            have HX : ∀ X c, c ≤ 9223372036854775807 → rdE w (.slice X (es.length - n) c) (es.drop n) := fun X c hc => by
              rw [hz, hz0]; exact rdE_nil w X c (by unfold maxLen; omega)
            replace HX := Lib.hid HX
            clear hz hz0 hnn
            by_cases hne : cap2 = n
            · cases a2
              all_goals
                go_wp2_with fail
                go_meet
                exact ⟨⟨_, _, rfl, HX.out _ _ (by omega)⟩, by congr 1 <;> omega, rfl, rfl⟩
            · cases a2
              all_goals
                go_wp2_with fail
                go_meet
                exact ⟨⟨_, _, rfl, HX.out _ _ (by omega)⟩, by congr 1 <;> omega, rfl, rfl⟩
        case rest =>
          obtain ⟨⟨X, c, rfl, hd⟩, rfl, rfl, rfl⟩ := hcut
          obtain ⟨X', c', he, hmX, hMX, haX⟩ := hd
          have hlen : (es.drop n).length = es.length - n := by simp
          have hml : es.length - n ≤ c := by
            injection he with q1 q2 q3
            rw [q3, ← hlen]; exact hmX
          have hMl : c ≤ 9223372036854775807 := by
            injection he with q1 q2 q3
            rw [q3]; exact hMX
          have haX : 0 < es.length - n → ∃ bl off, X = some ⟨bl, off, none⟩ ∧ ∀ j (h : j < es.length - n), cellsE w bl (off + j * 7) (es.getD (n + j) entZ) := fun h0 => by
            injection he with q1 q2 q3
            subst q1
            obtain ⟨bl, off, h1, h2⟩ := haX (by omega)
            refine ⟨bl, off, h1, fun j hj => ?_⟩
            have := h2 j (by omega)
            rw [List.getElem_drop] at this
            rw [getD_lt (by omega)]
            exact this
          replace haX := Lib.hid haX
          clear he hmX hMX hlen
          go_wp2
          go_loopw [61] (fun i wr => ∃ (j : Nat) (m : List Ent), j ≤ es.length - n ∧ i = .int .i64 j ∧ putTo l K es (n + j) = some m ∧ lgO wr (News w wr) bx m ∧ Below w.heap.size w wr) (fun i _ => (es.length - n) - (intOf i).toNat)
          case atStart => exact ⟨0, l, Nat.zero_le _, rfl, hsome.out, hlx.out, hB4.out⟩
          case round =>
            obtain ⟨j, m, hj, rfl, hput, hlg, hbel⟩ := hrel
            have hm60 := putTo_len hl hput
            replace hput := Lib.hid hput
            replace hlg := Lib.hid hlg
            have hsz := hbel.size
            by_cases hlt : j < es.length - n
            · obtain ⟨bl, off, rfl, hc⟩ := haX.out (by omega)
              have hck := at_later (hc j hlt) hbel
              have hst : Hid (∀ q, okAdd m (es.getD (n + j) entZ) = q → putTo l K es (n + (j + 1)) = if q = true then some (m ++ [es.getD (n + j) entZ]) else none) := Lib.hid (fun q hq => by
                rw [← Nat.add_assoc, putTo, hput.out]
                simp only [if_neg (show ¬ n + j < l.length - K by have := hn.out; omega), hq])
              clear hc
              generalize es.getD (n + j) entZ = x at hck hst
              obtain ⟨c0, c1, c2, c3, c4, c5, c6⟩ := hck
              have hlg2 : ∀ o, lgO (wr.alloc o) (News w (wr.alloc o)) bx m := fun o =>
                (hlg.out.grow ((Below.refl _ _).alloc (Nat.le_refl _) o)).mono fun k hk => ⟨hk.1, by simp; omega⟩
              replace hlg2 := Lib.hid hlg2
              go_wp2_with fail
              refine (logAdd_any _ _ x _ _ (hlg2.out _) hm60).mono ?_
              rintro r w5 ⟨rfl, h1, h2⟩
              have hB5 : Below w.heap.size w w5 := (hbel.alloc hsz _).trans (h2.below (by simp; omega) fun k hk => hk.1)
              have h3 : lgO w5 (News w w5) bx (addE m x) := by
                refine h1.mono fun k hk => ?_
                have := h2.size
                rcases hk with hk | hk
                · exact ⟨hk.1, Nat.lt_of_lt_of_le hk.2 this⟩
                · have := hk.1; simp at this; exact ⟨by omega, hk.2⟩
              clear h1 h2 hbel c0 c1 c2 c3 c4 c5 c6 hlg hlg2
              cases hsm : okAdd m x
              · have hnone := Lib.hid (putTo_none (hst.out false hsm) (show n + (j + 1) ≤ es.length by omega))
                go_wp2
                go_ret
                rw [hnone.out]
                exact ⟨rfl, hr.out.end_ hB5⟩
              · rw [addE, if_pos hsm] at h3
                have hst2 := Lib.hid (hst.out true hsm)
                clear hst hsm
                go_wp2
                go_roundw
                case rel => exact ⟨j + 1, m ++ [x], by omega, by go_num, hst2.out, h3, hB5⟩
                case measure => simp [intOf]; omega
            · have hje : n + j = es.length := by omega
              have hsm : Hid (putTo l K es es.length = some m) := Lib.hid (by rw [← hje]; exact hput.out)
              clear hje
              obtain ⟨hFx, vx, hvx, hox, hFF⟩ := hlg.out
              obtain ⟨ax, capx, rfl⟩ := hox.rd.len
              have hcx : wr.cell? ⟨bx, 0, none⟩ = some (.slice ax m.length capx) := by simp [World.cell?, hvx]
              obtain ⟨hFb, v0, hvb, hvo, hvF⟩ := hr.out
              have hvb2 : wr.heap[b]? = some (.cells #[v0] 54 (0, 0)) := by rw [hbel.block b (heap_lt hvb)]; exact hvb
              have hcb : wr.cell? ⟨b, 0, none⟩ = some v0 := by simp [World.cell?, hvb2]
              have hfb : wr.frozen? ⟨b, 0, none⟩ = false := by simp [World.frozen?, hvb2]
              have hfin : lgO (wr.setCell ⟨b, 0, none⟩ (.slice ax m.length capx)) (Gr F w (wr.setCell ⟨b, 0, none⟩ (.slice ax m.length capx))) b m ∧ Chg F w (wr.setCell ⟨b, 0, none⟩ (.slice ax m.length capx)) := by
                have hbw := heap_lt hvb
                refine ⟨⟨.inl hFb, _, one_setCell hvb2, ownsRow_setCell_other hox (by intro hk; have := (hFF _ hk).1; exact absurd hbw (by simp at this ⊢; omega)) _, fun k hk => .inr ?_⟩, ?_⟩
                · have := hFF k hk; exact ⟨this.1, by rw [World.size_setCell]; exact this.2⟩
                · refine ⟨hbel.os, hbel.tape, hbel.output, by rw [World.size_setCell]; exact hsz, fun k hk hF => ?_⟩
                  rw [Below.heap_setCell _ _ _ _ (fun e => hF (by rw [show k = b from e]; exact hFb))]
                  exact hbel.block k hk
              replace hfin := Lib.hid hfin
              clear hvx hox hFF hvb hvo hvF hvb2 hFx
              go_wp2
              go_ret
              rw [hsm.out]
              exact ⟨rfl, hfin.out⟩
end Go.Proofs.Ytnkiifodcmfmiaa
