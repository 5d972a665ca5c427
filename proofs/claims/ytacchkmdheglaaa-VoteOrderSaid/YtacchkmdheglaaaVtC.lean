/- Contract: a vote is gathered. -/
import Derived.Test.YtacchkmdheglaaaVtB
import Derived.Deep.RegionLaw
import Derived.Deep.AppendLies
namespace Go.Proofs.Ytacchkmdheglaaa
open Go.RowKit
set_option linter.unusedVariables false

theorem vt_close {T TV : TypeId} {w w4 w5 : World} {F D : Nat → Prop} {b gg n' cap1 : Nat} {view n : Int} {l : List VtS} {x : Vt} {v s' : Value} {X : Obj}
    (hlt : ∀ k, F k ∨ D k → k < w.heap.size) (hB4 : Below w.heap.size w w4) (hFb : F b) (hFD : ∀ k, F k → ¬ D k)
    (hvb : w4.heap[b]? = some (.cells #[.int .i64 view, .int .i64 n, v] T (0, 0))) (hvF : ∀ k, v.ownBlock = some k → F k) (hvn : v.ownBlock ≠ some b)
    (hlog : ∀ y ∈ l, rdE w4 y.s y.v.lg ∧ ∀ k, y.s.ownBlock = some k → D k) (hs : rdE w4 s' x.lg) (hsk : ∀ k, s'.ownBlock = some k → ¬ F k ∧ k < w4.heap.size)
    (hn : n' = (l ++ [(⟨x, s'⟩ : VtS)]).length) (hown : w5.ownsRow 0 TV 4 (.slice (some ⟨gg, 0, none⟩) n' cap1) n' (flatV (l ++ [⟨x, s'⟩])))
    (hgrow : (w4.alloc X).drew.grownBy w5 v.ownBlock) (hat : v.ownBlock = some gg ∨ gg = w4.heap.size + 1) (hlt5 : gg < w5.heap.size) :
    vtO T TV (w5.setCell ⟨b, 2, none⟩ (.slice (some ⟨gg, 0, none⟩) n' cap1)) (fun k => F k ∨ k = gg) (fun k => D k ∨ s'.ownBlock = some k) b view n (l ++ [⟨x, s'⟩]) ∧
      (∀ k, F k ∨ k = gg → F k ∨ (w.heap.size ≤ k ∧ k < (w5.setCell ⟨b, 2, none⟩ (.slice (some ⟨gg, 0, none⟩) n' cap1)).heap.size)) ∧
      Chg F w (w5.setCell ⟨b, 2, none⟩ (.slice (some ⟨gg, 0, none⟩) n' cap1)) := by
  have hsz : (w5.setCell ⟨b, 2, none⟩ (.slice (some ⟨gg, 0, none⟩) n' cap1)).heap.size = w5.heap.size := World.size_setCell _ _ _
  have h4 : w4.heap.size + 1 ≤ w5.heap.size := by have := hgrow.size; simpa using this
  have h04 := hB4.size
  have hbw := hlt b (.inl hFb)
  have key : ∀ k, k < w4.heap.size → some k ≠ v.ownBlock → w5.heap[k]? = w4.heap[k]? := fun k hk hne => by
    rw [hgrow.block k (by simp; omega) hne]
    exact Below.heap_alloc w4 X k hk
  have hb5 : w5.heap[b]? = some (.cells #[.int .i64 view, .int .i64 n, v] T (0, 0)) := by rw [key b (by omega) (Ne.symm hvn)]; exact hvb
  have hgb : gg ≠ b := by
    rintro rfl
    rcases hat with h | h
    · exact hvn h
    · omega
  have hc46 : Chg F w4 (w5.setCell ⟨b, 2, none⟩ (.slice (some ⟨gg, 0, none⟩) n' cap1)) := by
    refine ⟨hgrow.os, hgrow.tape, hgrow.output, by rw [hsz]; omega, fun k hk hF => ?_⟩
    rw [Below.heap_setCell _ _ _ _ (fun e => hF (by rw [show k = b from e]; exact hFb)), key k hk (fun e => hF (hvF k e.symm))]
  subst hn
  refine ⟨⟨.inl hFb, ?_, _, set_at hb5, ownsRow_setCell_other hown (by intro hk; injection hk with hk; exact hgb hk) _, ?_, ?_⟩, ?_, ?_⟩
  · rintro k (hk | rfl) (hd | hd)
    · exact hFD k hk hd
    · exact (hsk k hd).1 hk
    · rcases hat with h | h
      · exact hFD _ (hvF _ h) hd
      · have := hlt _ (.inr hd); omega
    · rcases hat with h | h
      · exact (hsk _ hd).1 (hvF _ h)
      · have := (hsk _ hd).2; omega
  · intro k hk
    injection hk with hk
    exact .inr hk.symm
  · intro y hy
    rcases List.mem_append.1 hy with hy | hy
    · exact ⟨(hlog y hy).1.chg hc46 fun k hk f => hFD k f ((hlog y hy).2 k hk), fun k hk => .inl ((hlog y hy).2 k hk)⟩
    · rw [List.mem_singleton] at hy
      subst hy
      exact ⟨hs.chg hc46 fun k hk f => (hsk k hk).1 f, fun k hk => .inr hk⟩
  · rintro k (hk | rfl)
    · exact .inl hk
    · rcases hat with h | h
      · exact .inl (hvF _ h)
      · exact .inr ⟨by omega, by rw [hsz]; exact hlt5⟩
  · exact ⟨hc46.os.trans hB4.os, hc46.tape.trans hB4.tape, hc46.output.trans hB4.output, Nat.le_trans hB4.size hc46.size, fun k hk hF => (hc46.block k (by omega) hF).trans (hB4.block k hk)⟩

theorem infoVote : (Try.prog.info? 47).map (fun i => (i.zero, i.size, i.bytes)) = some (some (.agg #[.int .i64 0, .int .i64 0, .slice none 0 0, .int .i64 0]), 4, 48) := by kernel_rfl

set_option maxRecDepth 100000 in
set_option maxHeartbeats 400000 in
theorem vNew_any (view n : Int) (w : World) (h0 : -9223372036854775808 ≤ view) (h1 : view ≤ 9223372036854775807) :
    Calls Try.prog 20 #[.int .i64 view, .int .i64 n] w fun r w' => (decT view n = 0 ∧ r = .returned (.pointer none) ∧ Below w.heap.size w w') ∨
      (decT view n ≠ 0 ∧ r = .returned (.pointer (some ⟨w.heap.size, 0, none⟩)) ∧ vtO 78 47 w' (fun k => k = w.heap.size) (fun _ => False) w.heap.size view n [] ∧ w' = w.alloc (.cells #[.int .i64 view, .int .i64 n, .slice none 0 0] 78)) := by
  by_cases hd : decT view n = 0
  · have hd' := Lib.hid hd
    go_enter Try.func20, Try.ntmps20
    go_wp2_with (go_at_call 36; refine (decider_any _ _ _ h0 h1).mono ?_; rintro e w' ⟨rfl, rfl⟩)
    go_ret
    exact .inl ⟨hd'.out, rfl, Below.refl _ _⟩
  · have hd' := Lib.hid hd
    have d : (decT view n == 0) = false := by simpa using hd
    go_enter Try.func20, Try.ntmps20
    go_wp2_with (go_at_call 36; refine (decider_any _ _ _ h0 h1).mono ?_; rintro e w' ⟨rfl, rfl⟩)
    go_ret
    refine .inr ⟨hd'.out, rfl, ⟨rfl, fun _ _ h => h, .slice none 0 0, at_new _ _, World.ownsRow_nil _ _ _ _, fun k hk => (by cases hk), fun y hy => (by cases hy)⟩, rfl⟩
end Go.Proofs.Ytacchkmdheglaaa
