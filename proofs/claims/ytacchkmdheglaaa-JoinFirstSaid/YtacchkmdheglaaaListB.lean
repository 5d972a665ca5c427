/- Contracts: the same lists; fronts. -/
import Derived.Test.YtacchkmdheglaaaListA
namespace Go.Proofs.Ytacchkmdheglaaa
open Go.RowKit
set_option linter.unusedVariables false

set_option maxRecDepth 100000 in
set_option maxHeartbeats 800000 in
theorem r12EqAll_any (v v2 : Value) (l m : List Ent) (w : World) (hr : rdE w v l) (hr2 : rdE w v2 m) :
    Calls Try.prog 31 #[v, v2] w fun r w' => r = .returned (.bool (eqAll l m)) ∧ Below w.heap.size w w' := by
  obtain ⟨a, cap, rfl, hm, hM, ha⟩ := hr
  obtain ⟨a2, cap2, rfl, hm2, hM2, ha2⟩ := hr2
  unfold maxLen at hM hM2
  by_cases hlen : l.length = m.length
  · have hge : m.length ≤ l.length := by omega
    have hle : l.length ≤ m.length := by omega
    have hb0 : (((l.length : Nat) : Int) != ((m.length : Nat) : Int)) = false := by simp [hlen]
    clear hlen
    replace ha := Lib.hid ha
    replace ha2 := Lib.hid ha2
    go_enter Try.func31, Try.ntmps31
    go_wp2
    go_loopw [5] (fun i wr => ∃ k : Nat, k ≤ l.length ∧ i = .int .i64 k ∧ eqAll (l.take k) (m.take k) = true ∧ Below w.heap.size w wr) (fun i _ => l.length - (intOf i).toNat)
    case atStart => exact ⟨0, Nat.zero_le _, rfl, rfl, Below.refl _ _⟩
    case round =>
      obtain ⟨k, hk, rfl, hno, hbel⟩ := hrel
      replace hno := Lib.hid hno
      by_cases hlt : k < l.length
      · have hlt2 : k < m.length := by omega
        obtain ⟨bl, off, rfl, hc⟩ := ha.out (by omega)
        obtain ⟨bl2, off2, rfl, hc2⟩ := ha2.out (by omega)
        have hck := at_later (hc k hlt) hbel
        have hck2 := at_later (hc2 k hlt2) hbel
        have hs := Lib.hid (eqAll_take k hlt hlt2)
        clear hc hc2
        generalize l[k] = x at hck hs
        generalize m[k] = y at hck2 hs
        obtain ⟨c0, c1, c2, c3, c4, c5, c6⟩ := hck
        obtain ⟨d0, d1, d2, d3, d4, d5, d6⟩ := hck2
        go_wp2
        go_still_tail 8, (by kernel_rfl)
        have hbel1 := hbel.drew
        have hsz := hbel1.size
        clear hbel c0 c1 c2 c3 c4 c5 c6 d0 d1 d2 d3 d4 d5 d6
        change wpList _ _ _ _ _ wr.drew
        generalize wr.drew = w2 at hbel1 hsz ⊢
        go_wp2_with fail
        refine (req_any x y _).mono ?_
        rintro r w1 ⟨rfl, hb1⟩
        have hbel2 := hbel1.trans (hb1.mono hsz)
        clear hb1 hbel1
        cases hsm : eqE x y
        · go_wp2
          go_ret
          exact ⟨ret_bool (by rw [eqAll_false (k + 1) (by omega) (by omega) (by rw [hs.out, hsm, Bool.and_false])]), hbel2⟩
        · go_wp2
          go_roundw
          case rel => exact ⟨k + 1, by omega, by go_num, by rw [hs.out, hno.out, hsm]; rfl, hbel2⟩
          case measure => simp [intOf]; omega
      · obtain rfl : k = l.length := by omega
        rw [List.take_length, List.take_of_length_le hge] at hno
        go_wp2
        go_ret
        exact ⟨ret_bool hno.out.symm, hbel⟩
  · have hne := eqAll_ne hlen
    have hb0 : (((l.length : Nat) : Int) != ((m.length : Nat) : Int)) = true := by simp; omega
    go_enter Try.func31, Try.ntmps31
    go_wp2
    go_ret
    exact ⟨ret_bool hne.symm, Below.refl _ _⟩

/-- the beginning of a slice -/
theorem rdE_take {w : World} {a : Option Addr} {n cap : Nat} {l : List Ent} (h : rdE w (.slice a n cap) l) (k : Nat) (hk : k ≤ l.length) : rdE w (.slice a k cap) (l.take k) := by
  obtain ⟨a', cap', e, hm, hM, ha⟩ := h
  injection e with e1 e2 e3
  subst e1 e3
  have hl : (l.take k).length = k := by simp; omega
  refine ⟨a, cap, by rw [hl], by omega, hM, fun h0 => ?_⟩
  rw [hl] at h0
  obtain ⟨b, off, rfl, hc⟩ := ha (by omega)
  refine ⟨b, off, rfl, fun j hj => ?_⟩
  rw [List.getElem_take]
  exact hc j (by omega)

/-- is a list another one's beginning -/
def frontE (l m : List Ent) : Bool := decide (l.length ≤ m.length) && eqAll l (m.take l.length)

end Go.Proofs.Ytacchkmdheglaaa
