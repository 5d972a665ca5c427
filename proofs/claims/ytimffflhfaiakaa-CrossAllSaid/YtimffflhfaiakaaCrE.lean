/- The laws' own parts: ranges as they come in; the first twelve of them, and the reference's. -/
import Derived.Test.YtimffflhfaiakaaCrD
import Derived.Test.YtimffflhfaiakaaQnO
import Derived.Deep.RegionHeld3
import Derived.Deep.RegionLaw
import Derived.Deep.AppendLies
namespace Go.Proofs.Ytimffflhfaiakaa
open Go.ChangeShapes Go.WideShapes Go.ChangeAt Go.RowKit
set_option linter.unusedVariables false

def cRgO (w : World) (b o : Nat) (x : Rg) : Prop := cRg w b o x ∧ I64 x.low ∧ I64 x.high
theorem rangeF0 : fieldOf1 Try.prog (fieldsOf Try.prog 28) 0 isI64d = true := by kernel_rfl
theorem rangeF1 : fieldOf1 Try.prog (fieldsOf Try.prog 28) 1 isI64d = true := by kernel_rfl
set_option maxRecDepth 100000 in
theorem slrange_open {H : Type} {enc : TypeId × Value → H} {W : World} {base : Nat} {v : Value} {d : DataW H} {ps : List MemPlace}
    (hok : Value.okWide Try.prog W .any base 22 v) (h : DataW.Trod enc Try.prog W 0 (fun _ => true) true 22 v d ps) : ∃ l, rdR W v l ∧ okR l := by
  obtain ⟨a0, len0, cap0, rfl⟩ := okWide_slice Try.underlying22 hok
  obtain ⟨fuel, hf⟩ := h
  obtain ⟨v, l, hcs, hr⟩ := rdS_openG (C := cRgO) (size := 2) (by omega) (fs := fieldsOf Try.prog 28) Try.underlying22 (by kernel_rfl) (by kernel_rfl) (fun n b off cs' xs hlen hcell hxl hfl => by
    obtain ⟨f0, a1, a2, a3, u0, a4, a5⟩ := fieldOf1_spec rangeF0
    obtain ⟨z0, b1, b2⟩ := fint_at hxl hfl a1 a2 a3 (by rw [a4, isI64d_spec a5]) (by omega)
    obtain ⟨f1, c1, c2, c3, u1, c4, c5⟩ := fieldOf1_spec rangeF1
    obtain ⟨z1, d1, d2⟩ := fint_at hxl hfl c1 c2 c3 (by rw [c4, isI64d_spec c5]) (by omega)
    exact ⟨⟨z0, z1⟩, ⟨hcell 0 _ b1, hcell 1 _ d1⟩, b2, d2⟩) hf
  simp [Value.cells] at hcs
  subst hcs
  obtain ⟨a, cap, e, h1, h2, h3⟩ := hr
  refine ⟨l, ⟨a, cap, e, h1, h2, fun h0 => ?_⟩, fun r hrm => ?_⟩
  · obtain ⟨b, off, e, hc⟩ := h3 h0
    exact ⟨b, off, e, fun j hj => (hc j hj).1⟩
  · obtain ⟨j, hj, rfl⟩ := List.getElem_of_mem hrm
    obtain ⟨b, off, e, hc⟩ := h3 (by omega)
    exact (hc j hj).2
theorem rdR_take {w : World} {a : Option Addr} {cap : Nat} {l : List Rg} (h : rdR w (.slice a l.length cap) l) (n : Nat) (hn : n ≤ l.length) : rdR w (.slice a n cap) (l.take n) := by
  obtain ⟨a', cap', e, h1, h2, h3⟩ := h
  injection e with e1 e2 e3
  subst e1 e3
  refine ⟨a, cap, by rw [List.length_take, Nat.min_eq_left hn], by rw [List.length_take]; omega, h2, fun h0 => ?_⟩
  rw [List.length_take] at h0
  obtain ⟨b, off, e, hc⟩ := h3 (by omega)
  refine ⟨b, off, e, fun j hj => ?_⟩
  rw [List.getElem_take]
  exact hc j (by rw [List.length_take] at hj; omega)
theorem infoRRange : (Try.prog.info? 31).map (fun i => (i.zero, i.size, i.bytes)) = some (some (.agg #[.int .i64 0, .int .i64 0]), 2, 16) := by kernel_rfl
theorem okR_take {l : List Rg} (h : okR l) (n : Nat) : okR (l.take n) := fun r hr => h r (List.mem_of_mem_take hr)
theorem news_rg (x : Rg) : ∀ u ∈ x.cells, u.oneCell' = true := by intro u hu; simp at hu; rcases hu with rfl | rfl <;> rfl

set_option maxRecDepth 100000 in
set_option maxHeartbeats 8000000 in
theorem of10_any (v : Value) (l : List Rg) (w : World) (hr : rdR w v l) :
    Calls Try.prog 16 #[v] w fun r w' => ∃ v' u, r = .returned (.tuple #[v', u]) ∧ rdR w' v' (l.take 12) ∧ ownR w' w.heap.size 31 u (l.take 12) ∧ Below w.heap.size w w' := by
  obtain ⟨i0, hi, hz0, hz1, hz2⟩ := info_parts infoRRange
  replace hi := Lib.hid hi
  have hrH := Lib.hid hr
  obtain ⟨a, cap, rfl, hm, hM, ha⟩ := hr
  unfold maxLen at hM
  replace ha := Lib.hid ha
  go_enter Try.func16, Try.ntmps16
  go_upto_if 8 with (fail)
  go_cut [0] (fun s wx => rdR w s (l.take 12) ∧ w = wx)
  case first =>
    by_cases h12 : l.length > 12
    · obtain ⟨g, off, rfl, _⟩ := ha.out (by omega)
      have hc12 : ¬ cap < 12 := by omega
      go_wp2_with fail
      go_meet
      exact ⟨rdR_take hrH.out 12 (by omega), rfl⟩
    · go_wp2_with fail
      go_meet
      exact ⟨by rw [List.take_of_length_le (by omega)]; exact hrH.out, rfl⟩
  case rest =>
    obtain ⟨hr1, rfl⟩ := hcut
    clear ha hrH
    have hl12 : (l.take 12).length ≤ 12 := by rw [List.length_take]; omega
    obtain ⟨L, hL⟩ : ∃ L, l.take 12 = L := ⟨_, rfl⟩
    rw [hL] at hr1 hl12
    have hr1H := Lib.hid hr1
    obtain ⟨a, cap, rfl, hm, hM, ha⟩ := hr1
    unfold maxLen at hM
    replace ha := Lib.hid ha
    replace hL := Lib.hid hL
    go_wp2
    go_loopw [4, 5] (fun s i wr => ∃ k : Nat, k ≤ L.length ∧ i = .int .i64 k ∧ ownR wr w.heap.size 31 s (L.take k) ∧ Below w.heap.size w wr) (fun _ i _ => L.length - (intOf i).toNat)
    case atStart => exact ⟨0, Nat.zero_le _, rfl, World.ownsRow_nil _ _ _ _, Below.refl _ _⟩
    case round =>
      obtain ⟨k, hk, rfl, hown, hbel⟩ := hrel
      have hsz := hbel.size
      by_cases hlt : k < L.length
      · obtain ⟨g, off, rfl, hc⟩ := ha.out (by omega)
        have hck := cRg.grow _ _ _ _ _ (hc k hlt) hbel
        have hrng : L.take (k + 1) = L.take k ++ [L[k]] := List.take_succ_eq_append_getElem hlt
        have hTl : (L.take k).length = k := by rw [List.length_take]; omega
        clear hc
        generalize L[k] = x at hck hrng
        obtain ⟨lo, hh⟩ := x
        obtain ⟨c0, c1⟩ := hck
        dsimp only at c0 c1
        generalize L.take k = A at hown hrng hTl
        obtain ⟨ao, cap1, rfl⟩ := hown.rd.len
        rw [hTl] at hown ⊢
        have hoA := hown
        unfold ownR at hoA
        rw [hTl] at hoA
        replace hoA := Lib.hid hoA
        replace hown := Lib.hid hown
        replace hbel := Lib.hid hbel
        replace hrng := Lib.hid hrng
        replace hTl := Lib.hid hTl
        go_upto_region 7 with (fail)
        have hi' := hi.out
        go_region_law
          ((refine step_append_lies _ (by rfl) _ _ _ (by rfl) w.heap.size 31 i0 _ 2 16 Try.underlying24 hi' hz0 hz1 hz2 rfl (by omega) (.slice ao k cap1) k (flatR A) (by rfl) ((World.ownsRow.alloc hoA.out _).drew)
              ⟨wr.heap.size, 0, none⟩ 1 1 (⟨lo, hh⟩ : Rg).cells (by rfl) (by rfl) (World.news_of_block (cs := (⟨lo, hh⟩ : Rg).cells.toArray) (t := 31) (fr := (0, 0)) (heap_alloc_new wr _)) (news_rg _)
              (by omega) (by unfold maxLen; omega) (by omega) (by simp; omega) (wr.heap.size + 1) (by simp) ?_; intro gg cap2 w5 hown1 hgrow hat hlt5))
        all_goals
          have hown2 : ownR w5 w.heap.size 31 (.slice (some ⟨gg, 0, none⟩) (k + 1) cap2) (L.take (k + 1)) := by
            rw [hrng.out, ownR, List.length_append, flatR_snoc, hTl.out]; exact hown1
          have hb5 : Below w.heap.size w w5 := ((hbel.out.alloc hsz _).drew).grown hgrow (by simp; omega) (fun k hk => (hoA.out.lt k hk).1)
          clear hown1 hgrow hat
          replace hown2 := Lib.hid hown2
          replace hb5 := Lib.hid hb5
          go_wp2
          go_roundw
          case rel => exact ⟨k + 1, by omega, by go_num, hown2.out, hb5.out⟩
          case measure => simp [intOf]; omega
      · obtain rfl : k = L.length := by omega
        rw [List.take_length] at hown
        have hr3 := Lib.hid (rdS.grow cRg.grow hr1H.out hbel)
        replace hown := Lib.hid hown
        replace hbel := Lib.hid hbel
        go_wp2
        go_ret2
        exact ⟨_, _, rfl, by rw [hL.out]; exact hr3.out, by rw [hL.out]; exact hown.out, hbel.out⟩
end Go.Proofs.Ytimffflhfaiakaa
