/- Put, whatever the place is. -/
import Derived.Test.YtnkiifodcmfmiaaLogC
namespace Go.Proofs.Ytnkiifodcmfmiaa
open Go.RowKit
set_option linter.unusedVariables false

theorem logPut_any (b : Nat) (v2 : Value) (l es : List Ent) (k : Int) (F : Nat → Prop) (w : World) (hr : lgO w F b l) (hr2 : rdE w v2 es) (hl : l.length ≤ 60) :
    Calls Try.prog 18 #[.pointer (some ⟨b, 0, none⟩), .int .i64 k, v2] w fun r w' => r = .returned (.bool (putE l k es).isSome) ∧ lgO w' (Gr F w w') b ((putE l k es).getD l) ∧ Chg F w w' := by
  by_cases h : k < 0 ∨ (l.length : Int) < k
  · refine (logPut_bad b v2 l es k w hr.rd hr2 h).mono ?_
    rintro r w' ⟨rfl, hb⟩
    rw [putE, if_pos h]
    exact ⟨rfl, hr.end_ hb⟩
  · obtain ⟨K, rfl⟩ : ∃ K : Nat, k = K := ⟨k.toNat, by omega⟩
    have hK : K ≤ l.length := by omega
    rw [putE, if_neg h, Int.toNat_natCast]
    exact logPut_in b v2 l es K _ F w hr hr2 hK hl rfl
end Go.Proofs.Ytnkiifodcmfmiaa
