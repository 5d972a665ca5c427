/- Contracts: numbers and texts behind bytes. -/
import Derived.Test.YtbmldiklgkojnaaTbA
import Derived.Lib.AppendStr
import Derived.Laws.BitsAllLaws
namespace Go.Proofs.Ytbmldiklgkojnaa
open Go.RowKit
set_option linter.unusedVariables false

def byteV (l : List UInt8) : List Value := l.map fun b => .int .u8 b.toNat
/-- a row of bytes of the call's own -/
def ownB (w : World) (base : Nat) (v : Value) (l : List UInt8) : Prop := w.ownsRow base 5 1 v l.length (byteV l)
theorem byteV_app (l m : List UInt8) : byteV (l ++ m) = byteV l ++ byteV m := List.map_append
theorem infoByte : (Try.prog.info? 5).map (fun i => (i.zero, i.size, i.bytes)) = some (some (.int .u8 0), 1, 1) := by kernel_rfl
theorem ownB.grow {w w' : World} {base : Nat} {v : Value} {l : List UInt8} (h : ownB w base v l) (hb : Below w.heap.size w w') : ownB w' base v l :=
  World.ownsRow.kept h (row := none) ⟨hb.os, hb.tape, hb.output, hb.size, fun k hk _ => hb.block k hk⟩ (by cases v.ownBlock with | none => exact .inl rfl | some k => exact .inr (by simp))

set_option maxRecDepth 100000 in
set_option maxHeartbeats 4000000 in
theorem nPut_any (v : Value) (l : List UInt8) (base n : Nat) (w : World) (h : ownB w base v l) (hb : base ≤ w.heap.size) (hl : l.length ≤ 100000) (hn : n ≤ 60) :
    Calls Try.prog 30 #[v, .int .i64 (n : Int)] w fun r w' => ∃ v', r = .returned v' ∧ ownB w' base v' (l ++ [UInt8.ofNat (2 * n)]) ∧ Below base w w' := by
  obtain ⟨i0, hi, hz0, hz1, hz2⟩ := info_parts infoByte
  replace hi := Lib.hid hi
  have hlen : (l ++ [UInt8.ofNat (2 * n)]).length = l.length + 1 := by simp
  have hbv : byteV (l ++ [UInt8.ofNat (2 * n)]) = byteV l ++ [.int .u8 ((2 * n : Nat) : Int)] := by
    rw [byteV_app]
    unfold byteV
    simp
    omega
  unfold ownB at h
  replace hbv := Lib.hid hbv
  replace hlen := Lib.hid hlen
  replace h := Lib.hid h
  go_enter Try.func30, Try.ntmps30
  go_wp2
  go_loopw [0, 5] (fun a u wr => a = v ∧ u = .int .u64 ((n : Int) * 2) ∧ wr = w) (fun _ _ _ => 0)
  case atStart => exact ⟨rfl, rfl, rfl⟩
  case round =>
    obtain ⟨rfl, rfl, rfl⟩ := hrel
    have hn' : Hid ((n : Int) * 2 = ((2 * n : Nat) : Int)) := Lib.hid (by omega)
    have hn2 : ¬ (n : Int) * 2 > 127 := by omega
    have hi' := hi.out
    go_wp2_with (first
      | (at_builtin; refine wpList_append_own _ rfl _ _ 45 rfl base 5 i0 (.int .u8 0) 1 1 Try.underlying45 hi' hz0 hz1 hz2 rfl (by decide) _ _ _ rfl (World.ownsRow.alloc h.out _) ⟨_, 0, none⟩ 1 1 [.int .u8 ((n : Int) * 2)] rfl rfl ?c1 ?c2 ?c3 ?c4 ?c5 ?_))
    case c2 => rfl
    case c3 => unfold maxLen; omega
    case c4 => omega
    case c5 => omega
    intro v7 w7 hown7 hg7 _
    rw [hn'.out, ← hbv.out, ← hlen.out] at hown7
    have hB7 : Below base wr w7 := ((Below.refl base wr).alloc hb _).grown hg7 (by simp; omega) (fun k hk => (h.out.lt k hk).1)
    clear hg7
    replace hown7 := Lib.hid hown7
    replace hB7 := Lib.hid hB7
    go_wp2
    go_ret
    exact ⟨v7, rfl, hown7.out, hB7.out⟩

theorem strV (s : ByteArray) : Lib.strCells s = byteV s.data.toList := rfl
set_option maxRecDepth 100000 in
set_option maxHeartbeats 4000000 in
theorem nPutText_any (v : Value) (l : List UInt8) (base : Nat) (s : ByteArray) (w : World) (h : ownB w base v l) (hb : base ≤ w.heap.size) (hl : l.length ≤ 90000) (hs : s.size ≤ 60) :
    Calls Try.prog 22 #[v, .string s] w fun r w' => ∃ v', r = .returned v' ∧ ownB w' base v' (l ++ txtT s) ∧ Below base w w' := by
  obtain ⟨i0, hi, hz0, hz1, hz2⟩ := info_parts infoByte
  replace hi := Lib.hid hi
  have happ : l ++ txtT s = (l ++ [UInt8.ofNat (2 * s.size)]) ++ s.data.toList := by unfold txtT; simp
  rw [happ]
  have hlen : ((l ++ [UInt8.ofNat (2 * s.size)]) ++ s.data.toList).length = (l ++ [UInt8.ofNat (2 * s.size)]).length + s.size := by rw [List.length_append, size_len]
  have hbv : byteV ((l ++ [UInt8.ofNat (2 * s.size)]) ++ s.data.toList) = byteV (l ++ [UInt8.ofNat (2 * s.size)]) ++ Lib.strCells s := by rw [byteV_app, strV]
  have hl1 : (l ++ [UInt8.ofNat (2 * s.size)]).length ≤ 90001 := by simp; omega
  clear happ
  have hP := nPut_any v l base s.size w h hb (by omega) hs
  generalize l ++ [UInt8.ofNat (2 * s.size)] = l1 at hbv hlen hl1 hP ⊢
  replace hbv := Lib.hid hbv
  replace hlen := Lib.hid hlen
  replace hP := Lib.hid hP
  go_enter Try.func22, Try.ntmps22
  go_wp2_with fail
  refine hP.out.mono ?_
  rintro r w1 ⟨v1, rfl, ho1, hb1⟩
  have hsz := hb1.size
  have hi' := hi.out
  unfold ownB at ho1
  replace ho1 := Lib.hid ho1
  replace hb1 := Lib.hid hb1
  go_wp2_with (first
    | (at_builtin; refine Lib.wpList_append_own_string _ rfl _ _ 45 9 rfl base 5 i0 Try.underlying45 Try.underlying9 hi' hz0 hz1 hz2 _ _ _ rfl ho1.out s rfl ?d1 ?d2 ?d3 ?_))
  case d1 => unfold maxLen; omega
  case d2 => omega
  case d3 => omega
  intro v7 w7 hown7 hg7 _
  rw [← hbv.out, ← hlen.out] at hown7
  have hB7 : Below base w w7 := hb1.out.grown hg7 (by omega) (fun k hk => (ho1.out.lt k hk).1)
  clear hg7
  replace hown7 := Lib.hid hown7
  replace hB7 := Lib.hid hB7
  go_wp2
  go_ret
  exact ⟨v7, rfl, hown7.out, hB7.out⟩
end Go.Proofs.Ytbmldiklgkojnaa
