/- Contract: not too many entries. -/
import Derived.Test.YtacchkmdheglaaaEntB
namespace Go.Proofs.Ytacchkmdheglaaa
open Go.RowKit
set_option linter.unusedVariables false

theorem infoEnt : (Try.prog.info? 67).map (fun i => (i.zero, i.size, i.bytes)) = some (some (Ent.val ⟨0, 0, 0, 0, 0, 0, ByteArray.empty⟩), 7, 64) := by kernel_rfl

/-- a new entry lies in a block of its own -/
theorem news_cells (w : World) (e : Ent) (E : TypeId) (n : Nat) (hn : n = w.heap.size) : ∀ j u, e.cells[j]? = some u → (w.alloc (.cells e.cells.toArray E)).cell? ((⟨n, 0, none⟩ : Addr).add j) = some u := by
  subst hn
  intro j u hj
  match j, hj with
  | 0, hj => simp at hj; subst hj; simp [Addr.add]
  | 1, hj => simp at hj; subst hj; simp [Addr.add]
  | 2, hj => simp at hj; subst hj; simp [Addr.add]
  | 3, hj => simp at hj; subst hj; simp [Addr.add]
  | 4, hj => simp at hj; subst hj; simp [Addr.add]
  | 5, hj => simp at hj; subst hj; simp [Addr.add]
  | 6, hj => simp at hj; subst hj; simp [Addr.add]
theorem news_one (e : Ent) : ∀ u, u ∈ e.cells → u.oneCell' = true := by
  intro u hu; simp [Ent.cells] at hu; rcases hu with rfl | rfl | rfl | rfl | rfl | rfl | rfl <;> rfl

def mapCut (l : List Ent) (k : Nat) : List Ent := (l.take k).map cutE
theorem mapCut_snoc (l : List Ent) (k : Nat) (h : k < l.length) : mapCut l (k + 1) = mapCut l k ++ [cutE l[k]] := by
  unfold mapCut; rw [List.take_succ_eq_append_getElem h, List.map_append]; rfl
theorem mapCut_len (l : List Ent) (k : Nat) (h : k ≤ l.length) : (mapCut l k).length = k := by unfold mapCut; simp; omega

set_option maxRecDepth 100000 in
set_option maxHeartbeats 1000000 in
theorem entries12_any (v : Value) (l : List Ent) (n : Int) (w : World) (hr : rdE w v l) (hd : ∀ e ∈ l, e.data.size ≤ 9223372036854775807) (hn0 : 0 ≤ n) (hn1 : n ≤ 100) :
    Calls Try.prog 33 #[v, .int .i64 n] w fun x w' => ∃ v', x = .returned v' ∧ ownE w' w.heap.size 67 v' (mapCut l (min n.toNat l.length)) ∧ Below w.heap.size w w' := by
  obtain ⟨i0, hi, hz0, hz1, hz2⟩ := info_parts infoEnt
  obtain ⟨a, cap, rfl, hm, hM, ha⟩ := hr
  unfold maxLen at hM
  replace ha := Lib.hid ha
  replace hd := Lib.hid hd
  go_enter Try.func33, Try.ntmps33
  go_wp2
  go_loopw [5, 6] (fun r i wr => ∃ k : Nat, k ≤ l.length ∧ (k : Int) ≤ n ∧ i = .int .i64 k ∧ ownE wr w.heap.size 67 r (mapCut l k) ∧ Below w.heap.size w wr) (fun _ i _ => l.length - (intOf i).toNat)
  case atStart => exact ⟨0, Nat.zero_le _, hn0, rfl, World.ownsRow_nil _ _ _ _, Below.refl _ _⟩
  case round =>
    obtain ⟨k, hk, hkn, rfl, hown, hbel⟩ := hrel
    have hlen : (mapCut l k).length ≤ 100 := by rw [mapCut_len l k hk]; omega
    have hsz := hbel.size
    by_cases hlt : k < l.length
    · by_cases hlt2 : (k : Int) < n
      · obtain ⟨b, off, rfl, hc⟩ := ha.out (by omega)
        have hck := (hc k hlt)
        have hck := hck.below hbel hck.lt
        have hdk := hd.out l[k] (List.getElem_mem hlt)
        have hs := Lib.hid (mapCut_snoc l k hlt)
        clear hc
        generalize l[k] = e at hck hdk hs
        obtain ⟨c0, c1, c2, c3, c4, c5, c6⟩ := hck
        go_wp2_with fail
        refine (cut12_any e _ hdk).mono ?_
        rintro e' w1 ⟨rfl, hb1⟩
        have hbel1 := hbel.trans (hb1.mono hsz)
        have hsz1 := hbel1.size
        have hown1 : ownE w1 w.heap.size 67 u5 (mapCut l k) := ownE_grow hown hb1
        clear hown hb1 hbel c0 c1 c2 c3 c4 c5 c6
        go_wp2_with (first
          | (at_builtin; refine wpList_append_own _ rfl _ _ 28 rfl w.heap.size 67 i0 (Ent.val ⟨0, 0, 0, 0, 0, 0, ByteArray.empty⟩) 7 64 Try.underlying28 hi hz0 hz1 hz2 rfl (by decide) _ _ _ rfl (World.ownsRow.alloc hown1 _) ⟨_, 0, none⟩ 1 1 (cutE e).cells rfl rfl ?c1 ?c2 ?c3 ?c4 ?c5 ?_))
        case c1 => exact news_cells w1 (cutE e) _ _ rfl
        case c2 => exact news_one _
        case c3 => unfold maxLen; omega
        case c4 => omega
        case c5 => simp; omega
        intro v' w2 hown' hgrow _
        have ho : ownE w2 w.heap.size 67 v' (mapCut l (k + 1)) := by
          rw [hs.out, ownE, List.length_append, flatE_snoc]; exact hown'
        have hb2 : Below w.heap.size w w2 := (hbel1.alloc hsz1 _).grown hgrow (by simp; omega) (fun k hk => (hown1.lt k hk).1)
        clear hown' hgrow hown1 hbel1
        go_wp2
        go_roundw
        case rel => exact ⟨k + 1, by omega, by omega, by go_num, ho, hb2⟩
        case measure => simp [intOf]; omega
      · go_wp2
        go_ret
        have e : min n.toNat l.length = k := by omega
        rw [e]
        exact ⟨_, rfl, hown, hbel⟩
    · go_wp2
      go_ret
      have e : min n.toNat l.length = k := by omega
      rw [e]
      exact ⟨_, rfl, hown, hbel⟩
end Go.Proofs.Ytacchkmdheglaaa
