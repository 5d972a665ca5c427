/-
  No cell of these rows narrows 'for every input' (looked for: loops, veiled, ifaces, maps, wideKeys, modest, calm, conditions, laid).
  DERIVED. THE GIVEN ROWS OF THIS SEAT. 9 by the template 'for every input the law returns true; each argument reads behind the call as it read before'; 0 by the template 'total and deterministic' (their statements: YtacchkmdheglaaaTotals.lean).
  GIVEN WITH THE SEED: the statements are not yours to turn. If you find one false, say at which input.
  Laid BY PROGRAM, IN A SANDBOX (cutbox-rows.mjs): the forced cells as the released guide's own fill.sh prints them over the translation 2cb96be339076fe4… (all of the seat's roots in one cut). By AI agents, Wed Nov 11 2026. No macro, syntax, notation, axiom, sorry.
-/
import Derived.Test.YtacchkmdheglaaaChecked
import GoSem.Claim
import GoSem.ClaimJoined
import GoSem.ClaimMapViews
import Derived.JoinedTies
import Derived.KernelRfl
namespace Go.Proofs.Ytacchkmdheglaaa
/- THE CELL 'sum', in the pinned program and in every row, IS THE sha256 OF THE DUMP (.gsa) THAT YtacchkmdheglaaaProg.lean LOADS. Nothing in Lean hashes anything: it is a label: what it is worth is what the hold of that sum in a sandbox is worth. -/
noncomputable def Try.pinned : Pinned := { name := "ytacchkmdheglaaa", sum := "2cb96be339076fe4d91e50b239fc8bd9f0b0ee8ce236e62d81b2f04d1eb3477c", checked := Try.checked }
namespace Rows
def none {H : Type} : Left H := { results := [], args := [] }

/-- 'curfewlaw24.JoinAsk': WHATEVER THE INPUT: true; the input reads as it did. -/
def joinAskSpec : ChangeSpec := { name := "joinAsk", fn := fun _ => fun
  | [d1, d2, d3, d4] => { results := [.lit (.bool true)], args := [d1, d2, d3, d4] }
  | _ => none }
def joinAskRow : OpenClaim := { program := "ytacchkmdheglaaa", sum := "2cb96be339076fe4d91e50b239fc8bd9f0b0ee8ce236e62d81b2f04d1eb3477c", func := "curfew/curfewlaw24.JoinAsk", spec := "joinAsk", unfollowed := true, recurses := true, apart := false }
def JoinAskSaid : Prop := joinAskRow.holds Try.pinned (OpenSpec.ofChange joinAskSpec)

/-- ITS FALSE NEIGHBOUR: 'it returns false'. Refute it at one input. -/
def joinAskWrong : ChangeSpec := { name := "joinAsk", fn := fun _ => fun
  | [d1, d2, d3, d4] => { results := [.lit (.bool false)], args := [d1, d2, d3, d4] }
  | _ => none }
def JoinAskWrongFalsely : Prop := joinAskRow.holds Try.pinned (OpenSpec.ofChange joinAskWrong)

/-- 'curfewlaw24.JoinNone': WHATEVER THE INPUT: true; the input reads as it did. -/
def joinNoneSpec : ChangeSpec := { name := "joinNone", fn := fun _ => fun
  | [] => { results := [.lit (.bool true)], args := [] }
  | _ => none }
def joinNoneRow : OpenClaim := { program := "ytacchkmdheglaaa", sum := "2cb96be339076fe4d91e50b239fc8bd9f0b0ee8ce236e62d81b2f04d1eb3477c", func := "curfew/curfewlaw24.JoinNone", spec := "joinNone", unfollowed := true, recurses := true, apart := false }
def JoinNoneSaid : Prop := joinNoneRow.holds Try.pinned (OpenSpec.ofChange joinNoneSpec)

/-- ITS FALSE NEIGHBOUR: 'it returns false'. Refute it at one input. -/
def joinNoneWrong : ChangeSpec := { name := "joinNone", fn := fun _ => fun
  | [] => { results := [.lit (.bool false)], args := [] }
  | _ => none }
def JoinNoneWrongFalsely : Prop := joinNoneRow.holds Try.pinned (OpenSpec.ofChange joinNoneWrong)

/-- 'curfewlaw24.JoinFirst': WHATEVER THE INPUT: true; the input reads as it did. -/
def joinFirstSpec : ChangeSpec := { name := "joinFirst", fn := fun _ => fun
  | [d1, d2, d3, d4] => { results := [.lit (.bool true)], args := [d1, d2, d3, d4] }
  | _ => none }
def joinFirstRow : OpenClaim := { program := "ytacchkmdheglaaa", sum := "2cb96be339076fe4d91e50b239fc8bd9f0b0ee8ce236e62d81b2f04d1eb3477c", func := "curfew/curfewlaw24.JoinFirst", spec := "joinFirst", unfollowed := true, recurses := true, apart := false }
def JoinFirstSaid : Prop := joinFirstRow.holds Try.pinned (OpenSpec.ofChange joinFirstSpec)

/-- ITS FALSE NEIGHBOUR: 'it returns false'. Refute it at one input. -/
def joinFirstWrong : ChangeSpec := { name := "joinFirst", fn := fun _ => fun
  | [d1, d2, d3, d4] => { results := [.lit (.bool false)], args := [d1, d2, d3, d4] }
  | _ => none }
def JoinFirstWrongFalsely : Prop := joinFirstRow.holds Try.pinned (OpenSpec.ofChange joinFirstWrong)

/-- 'curfewlaw20.VoteAll': WHATEVER THE INPUT: true; the input reads as it did. -/
def voteAllSpec : ChangeSpec := { name := "voteAll", fn := fun _ => fun
  | [d1, d2, d3] => { results := [.lit (.bool true)], args := [d1, d2, d3] }
  | _ => none }
def voteAllRow : OpenClaim := { program := "ytacchkmdheglaaa", sum := "2cb96be339076fe4d91e50b239fc8bd9f0b0ee8ce236e62d81b2f04d1eb3477c", func := "curfew/curfewlaw20.VoteAll", spec := "voteAll", unfollowed := true, recurses := true, apart := false }
def VoteAllSaid : Prop := voteAllRow.holds Try.pinned (OpenSpec.ofChange voteAllSpec)

/-- ITS FALSE NEIGHBOUR: 'it returns false'. Refute it at one input. -/
def voteAllWrong : ChangeSpec := { name := "voteAll", fn := fun _ => fun
  | [d1, d2, d3] => { results := [.lit (.bool false)], args := [d1, d2, d3] }
  | _ => none }
def VoteAllWrongFalsely : Prop := voteAllRow.holds Try.pinned (OpenSpec.ofChange voteAllWrong)

/-- 'curfewlaw20.VoteOrder': WHATEVER THE INPUT: true; the input reads as it did. -/
def voteOrderSpec : ChangeSpec := { name := "voteOrder", fn := fun _ => fun
  | [d1, d2, d3] => { results := [.lit (.bool true)], args := [d1, d2, d3] }
  | _ => none }
def voteOrderRow : OpenClaim := { program := "ytacchkmdheglaaa", sum := "2cb96be339076fe4d91e50b239fc8bd9f0b0ee8ce236e62d81b2f04d1eb3477c", func := "curfew/curfewlaw20.VoteOrder", spec := "voteOrder", unfollowed := true, recurses := true, apart := false }
def VoteOrderSaid : Prop := voteOrderRow.holds Try.pinned (OpenSpec.ofChange voteOrderSpec)

/-- ITS FALSE NEIGHBOUR: 'it returns false'. Refute it at one input. -/
def voteOrderWrong : ChangeSpec := { name := "voteOrder", fn := fun _ => fun
  | [d1, d2, d3] => { results := [.lit (.bool false)], args := [d1, d2, d3] }
  | _ => none }
def VoteOrderWrongFalsely : Prop := voteOrderRow.holds Try.pinned (OpenSpec.ofChange voteOrderWrong)

/-- 'curfewlaw20.VoteOwn': WHATEVER THE INPUT: true; the input reads as it did. -/
def voteOwnSpec : ChangeSpec := { name := "voteOwn", fn := fun _ => fun
  | [d] => { results := [.lit (.bool true)], args := [d] }
  | _ => none }
def voteOwnRow : OpenClaim := { program := "ytacchkmdheglaaa", sum := "2cb96be339076fe4d91e50b239fc8bd9f0b0ee8ce236e62d81b2f04d1eb3477c", func := "curfew/curfewlaw20.VoteOwn", spec := "voteOwn", unfollowed := true, recurses := true, apart := false }
def VoteOwnSaid : Prop := voteOwnRow.holds Try.pinned (OpenSpec.ofChange voteOwnSpec)

/-- ITS FALSE NEIGHBOUR: 'it returns false'. Refute it at one input. -/
def voteOwnWrong : ChangeSpec := { name := "voteOwn", fn := fun _ => fun
  | [d] => { results := [.lit (.bool false)], args := [d] }
  | _ => none }
def VoteOwnWrongFalsely : Prop := voteOwnRow.holds Try.pinned (OpenSpec.ofChange voteOwnWrong)

/-- 'curfewlaw20.VoteNone': WHATEVER THE INPUT: true; the input reads as it did. -/
def voteNoneSpec : ChangeSpec := { name := "voteNone", fn := fun _ => fun
  | [] => { results := [.lit (.bool true)], args := [] }
  | _ => none }
def voteNoneRow : OpenClaim := { program := "ytacchkmdheglaaa", sum := "2cb96be339076fe4d91e50b239fc8bd9f0b0ee8ce236e62d81b2f04d1eb3477c", func := "curfew/curfewlaw20.VoteNone", spec := "voteNone", unfollowed := true, recurses := true, apart := false }
def VoteNoneSaid : Prop := voteNoneRow.holds Try.pinned (OpenSpec.ofChange voteNoneSpec)

/-- ITS FALSE NEIGHBOUR: 'it returns false'. Refute it at one input. -/
def voteNoneWrong : ChangeSpec := { name := "voteNone", fn := fun _ => fun
  | [] => { results := [.lit (.bool false)], args := [] }
  | _ => none }
def VoteNoneWrongFalsely : Prop := voteNoneRow.holds Try.pinned (OpenSpec.ofChange voteNoneWrong)

/-- 'curfewlaw20.VoteBest': WHATEVER THE INPUT: true; the input reads as it did. -/
def voteBestSpec : ChangeSpec := { name := "voteBest", fn := fun _ => fun
  | [d1, d2, d3] => { results := [.lit (.bool true)], args := [d1, d2, d3] }
  | _ => none }
def voteBestRow : OpenClaim := { program := "ytacchkmdheglaaa", sum := "2cb96be339076fe4d91e50b239fc8bd9f0b0ee8ce236e62d81b2f04d1eb3477c", func := "curfew/curfewlaw20.VoteBest", spec := "voteBest", unfollowed := true, recurses := true, apart := false }
def VoteBestSaid : Prop := voteBestRow.holds Try.pinned (OpenSpec.ofChange voteBestSpec)

/-- ITS FALSE NEIGHBOUR: 'it returns false'. Refute it at one input. -/
def voteBestWrong : ChangeSpec := { name := "voteBest", fn := fun _ => fun
  | [d1, d2, d3] => { results := [.lit (.bool false)], args := [d1, d2, d3] }
  | _ => none }
def VoteBestWrongFalsely : Prop := voteBestRow.holds Try.pinned (OpenSpec.ofChange voteBestWrong)

/-- 'curfewlaw20.VoteMay': WHATEVER THE INPUT: true; the input reads as it did. -/
def voteMaySpec : ChangeSpec := { name := "voteMay", fn := fun _ => fun
  | [d1, d2, d3, d4, d5, d6] => { results := [.lit (.bool true)], args := [d1, d2, d3, d4, d5, d6] }
  | _ => none }
def voteMayRow : OpenClaim := { program := "ytacchkmdheglaaa", sum := "2cb96be339076fe4d91e50b239fc8bd9f0b0ee8ce236e62d81b2f04d1eb3477c", func := "curfew/curfewlaw20.VoteMay", spec := "voteMay", unfollowed := true, recurses := true, apart := false }
def VoteMaySaid : Prop := voteMayRow.holds Try.pinned (OpenSpec.ofChange voteMaySpec)

/-- ITS FALSE NEIGHBOUR: 'it returns false'. Refute it at one input. -/
def voteMayWrong : ChangeSpec := { name := "voteMay", fn := fun _ => fun
  | [d1, d2, d3, d4, d5, d6] => { results := [.lit (.bool false)], args := [d1, d2, d3, d4, d5, d6] }
  | _ => none }
def VoteMayWrongFalsely : Prop := voteMayRow.holds Try.pinned (OpenSpec.ofChange voteMayWrong)

/- THE SECOND FORM. 'bulk': how many values and letters a reading holds, each counted each time it is reached (what is shared counts as often as it is met; a slice's spare places count too). A statement '..UptoSaid' is the law's where the arguments, and the package variables that the reading takes, are together of bulk at most 1048576: NARROWER than '..Said'. Prove '..Said' where nothing that the law and all that it calls make is longer than what came in: it says more and counts as full. Else prove '..UptoSaid'. A law counts once. -/
mutual
def uptoBulk {H : Type} : DataW H → Nat
  | .lit (.string bytes) => bytes.length + 1
  | .lit _ => 1
  | .nil => 1
  | .ptr d => uptoBulk d + 1
  | .slice elems spare => uptoBulkAll elems + uptoBulkAll spare + 1
  | .agg parts => uptoBulkAll parts + 1
  | .iface _ d => uptoBulk d + 1
  | .map entries => uptoBulkEntries entries + 1
  | .held _ => 1
def uptoBulkAll {H : Type} : List (DataW H) → Nat
  | [] => 0
  | d :: r => uptoBulk d + uptoBulkAll r
def uptoBulkEntries {H : Type} : List (Lit × DataW H) → Nat
  | [] => 0
  | x :: r => uptoBulkEntry x + uptoBulkEntries r
def uptoBulkEntry {H : Type} : Lit × DataW H → Nat
  | (.string bytes, d) => bytes.length + uptoBulk d + 1
  | (_, d) => uptoBulk d + 1
 end
def uptoSmall : (H : Type) → List (DataW H) → Bool := fun _ ds => decide (uptoBulkAll ds ≤ 1048576)
def OpenSpec.upto (s : _root_.Go.ChangeSpec) : _root_.Go.OpenSpec := { _root_.Go.OpenSpec.ofChange s with cond := some uptoSmall }

/-- 'curfewlaw24.JoinAsk', WHERE WHAT IT READS IS OF BULK AT MOST 1048576: true; the input reads as it did. -/
def joinAskUptoRow : OpenClaim := { program := "ytacchkmdheglaaa", sum := "2cb96be339076fe4d91e50b239fc8bd9f0b0ee8ce236e62d81b2f04d1eb3477c", func := "curfew/curfewlaw24.JoinAsk", spec := "joinAsk", unfollowed := true, recurses := true, apart := false, narrowed := true }
def JoinAskUptoSaid : Prop := joinAskUptoRow.holds Try.pinned (OpenSpec.upto joinAskSpec)

/-- 'curfewlaw24.JoinNone', WHERE WHAT IT READS IS OF BULK AT MOST 1048576: true; the input reads as it did. -/
def joinNoneUptoRow : OpenClaim := { program := "ytacchkmdheglaaa", sum := "2cb96be339076fe4d91e50b239fc8bd9f0b0ee8ce236e62d81b2f04d1eb3477c", func := "curfew/curfewlaw24.JoinNone", spec := "joinNone", unfollowed := true, recurses := true, apart := false, narrowed := true }
def JoinNoneUptoSaid : Prop := joinNoneUptoRow.holds Try.pinned (OpenSpec.upto joinNoneSpec)

/-- 'curfewlaw24.JoinFirst', WHERE WHAT IT READS IS OF BULK AT MOST 1048576: true; the input reads as it did. -/
def joinFirstUptoRow : OpenClaim := { program := "ytacchkmdheglaaa", sum := "2cb96be339076fe4d91e50b239fc8bd9f0b0ee8ce236e62d81b2f04d1eb3477c", func := "curfew/curfewlaw24.JoinFirst", spec := "joinFirst", unfollowed := true, recurses := true, apart := false, narrowed := true }
def JoinFirstUptoSaid : Prop := joinFirstUptoRow.holds Try.pinned (OpenSpec.upto joinFirstSpec)

/-- 'curfewlaw20.VoteAll', WHERE WHAT IT READS IS OF BULK AT MOST 1048576: true; the input reads as it did. -/
def voteAllUptoRow : OpenClaim := { program := "ytacchkmdheglaaa", sum := "2cb96be339076fe4d91e50b239fc8bd9f0b0ee8ce236e62d81b2f04d1eb3477c", func := "curfew/curfewlaw20.VoteAll", spec := "voteAll", unfollowed := true, recurses := true, apart := false, narrowed := true }
def VoteAllUptoSaid : Prop := voteAllUptoRow.holds Try.pinned (OpenSpec.upto voteAllSpec)

/-- 'curfewlaw20.VoteOrder', WHERE WHAT IT READS IS OF BULK AT MOST 1048576: true; the input reads as it did. -/
def voteOrderUptoRow : OpenClaim := { program := "ytacchkmdheglaaa", sum := "2cb96be339076fe4d91e50b239fc8bd9f0b0ee8ce236e62d81b2f04d1eb3477c", func := "curfew/curfewlaw20.VoteOrder", spec := "voteOrder", unfollowed := true, recurses := true, apart := false, narrowed := true }
def VoteOrderUptoSaid : Prop := voteOrderUptoRow.holds Try.pinned (OpenSpec.upto voteOrderSpec)

/-- 'curfewlaw20.VoteOwn', WHERE WHAT IT READS IS OF BULK AT MOST 1048576: true; the input reads as it did. -/
def voteOwnUptoRow : OpenClaim := { program := "ytacchkmdheglaaa", sum := "2cb96be339076fe4d91e50b239fc8bd9f0b0ee8ce236e62d81b2f04d1eb3477c", func := "curfew/curfewlaw20.VoteOwn", spec := "voteOwn", unfollowed := true, recurses := true, apart := false, narrowed := true }
def VoteOwnUptoSaid : Prop := voteOwnUptoRow.holds Try.pinned (OpenSpec.upto voteOwnSpec)

/-- 'curfewlaw20.VoteNone', WHERE WHAT IT READS IS OF BULK AT MOST 1048576: true; the input reads as it did. -/
def voteNoneUptoRow : OpenClaim := { program := "ytacchkmdheglaaa", sum := "2cb96be339076fe4d91e50b239fc8bd9f0b0ee8ce236e62d81b2f04d1eb3477c", func := "curfew/curfewlaw20.VoteNone", spec := "voteNone", unfollowed := true, recurses := true, apart := false, narrowed := true }
def VoteNoneUptoSaid : Prop := voteNoneUptoRow.holds Try.pinned (OpenSpec.upto voteNoneSpec)

/-- 'curfewlaw20.VoteBest', WHERE WHAT IT READS IS OF BULK AT MOST 1048576: true; the input reads as it did. -/
def voteBestUptoRow : OpenClaim := { program := "ytacchkmdheglaaa", sum := "2cb96be339076fe4d91e50b239fc8bd9f0b0ee8ce236e62d81b2f04d1eb3477c", func := "curfew/curfewlaw20.VoteBest", spec := "voteBest", unfollowed := true, recurses := true, apart := false, narrowed := true }
def VoteBestUptoSaid : Prop := voteBestUptoRow.holds Try.pinned (OpenSpec.upto voteBestSpec)

/-- 'curfewlaw20.VoteMay', WHERE WHAT IT READS IS OF BULK AT MOST 1048576: true; the input reads as it did. -/
def voteMayUptoRow : OpenClaim := { program := "ytacchkmdheglaaa", sum := "2cb96be339076fe4d91e50b239fc8bd9f0b0ee8ce236e62d81b2f04d1eb3477c", func := "curfew/curfewlaw20.VoteMay", spec := "voteMay", unfollowed := true, recurses := true, apart := false, narrowed := true }
def VoteMayUptoSaid : Prop := voteMayUptoRow.holds Try.pinned (OpenSpec.upto voteMaySpec)

end Rows
end Go.Proofs.Ytacchkmdheglaaa
