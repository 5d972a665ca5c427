/-
  No cell of these rows narrows 'for every input' (looked for: loops, veiled, ifaces, maps, wideKeys, modest, calm, conditions, laid).
  DERIVED. THE GIVEN ROWS OF THIS SEAT. 7 by the template 'for every input the law returns true; each argument reads behind the call as it read before'; 0 by the template 'total and deterministic' (their statements: YtfhfhljjhgdbiaaTotals.lean).
  GIVEN WITH THE SEED: the statements are not yours to turn. If you find one false, say at which input.
  Laid BY PROGRAM, IN A SANDBOX (cutbox-rows.mjs): the forced cells as the released guide's own fill.sh prints them over the translation 0b53d793d4f89c48… (all of the seat's roots in one cut). By AI agents, Wed Nov 11 2026. No macro, syntax, notation, axiom, sorry.
-/
import Derived.Test.YtfhfhljjhgdbiaaChecked
import GoSem.Claim
import GoSem.ClaimJoined
import GoSem.ClaimMapViews
import Derived.JoinedTies
import Derived.KernelRfl
namespace Go.Proofs.Ytfhfhljjhgdbiaa
/- THE CELL 'sum', in the pinned program and in every row, IS THE sha256 OF THE DUMP (.gsa) THAT YtfhfhljjhgdbiaaProg.lean LOADS. Nothing in Lean hashes anything: it is a label: what it is worth is what the hold of that sum in a sandbox is worth. -/
noncomputable def Try.pinned : Pinned := { name := "ytfhfhljjhgdbiaa", sum := "0b53d793d4f89c486f844cfa2b39df33decad679b8dc2079778e41d021536266", checked := Try.checked }
namespace Rows
def none {H : Type} : Left H := { results := [], args := [] }

/-- 'curfewlaw3.TeamOf': WHATEVER THE INPUT: true; the input reads as it did. -/
def teamOfSpec : ChangeSpec := { name := "teamOf", fn := fun _ => fun
  | [d] => { results := [.lit (.bool true)], args := [d] }
  | _ => none }
def teamOfRow : OpenClaim := { program := "ytfhfhljjhgdbiaa", sum := "0b53d793d4f89c486f844cfa2b39df33decad679b8dc2079778e41d021536266", func := "curfew/curfewlaw3.TeamOf", spec := "teamOf", apart := false }
def TeamOfSaid : Prop := teamOfRow.holds Try.pinned (OpenSpec.ofChange teamOfSpec)

/-- ITS FALSE NEIGHBOUR: 'it returns false'. Refute it at one input. -/
def teamOfWrong : ChangeSpec := { name := "teamOf", fn := fun _ => fun
  | [d] => { results := [.lit (.bool false)], args := [d] }
  | _ => none }
def TeamOfWrongFalsely : Prop := teamOfRow.holds Try.pinned (OpenSpec.ofChange teamOfWrong)

/-- 'curfewlaw3.TeamSets': WHATEVER THE INPUT: true; the input reads as it did. -/
def teamSetsSpec : ChangeSpec := { name := "teamSets", fn := fun _ => fun
  | [d1, d2, d3] => { results := [.lit (.bool true)], args := [d1, d2, d3] }
  | _ => none }
def teamSetsRow : OpenClaim := { program := "ytfhfhljjhgdbiaa", sum := "0b53d793d4f89c486f844cfa2b39df33decad679b8dc2079778e41d021536266", func := "curfew/curfewlaw3.TeamSets", spec := "teamSets", apart := false }
def TeamSetsSaid : Prop := teamSetsRow.holds Try.pinned (OpenSpec.ofChange teamSetsSpec)

/-- ITS FALSE NEIGHBOUR: 'it returns false'. Refute it at one input. -/
def teamSetsWrong : ChangeSpec := { name := "teamSets", fn := fun _ => fun
  | [d1, d2, d3] => { results := [.lit (.bool false)], args := [d1, d2, d3] }
  | _ => none }
def TeamSetsWrongFalsely : Prop := teamSetsRow.holds Try.pinned (OpenSpec.ofChange teamSetsWrong)

/-- 'curfewlaw3.TeamMost': WHATEVER THE INPUT: true; the input reads as it did. -/
def teamMostSpec : ChangeSpec := { name := "teamMost", fn := fun _ => fun
  | [d1, d2] => { results := [.lit (.bool true)], args := [d1, d2] }
  | _ => none }
def teamMostRow : OpenClaim := { program := "ytfhfhljjhgdbiaa", sum := "0b53d793d4f89c486f844cfa2b39df33decad679b8dc2079778e41d021536266", func := "curfew/curfewlaw3.TeamMost", spec := "teamMost", apart := false }
def TeamMostSaid : Prop := teamMostRow.holds Try.pinned (OpenSpec.ofChange teamMostSpec)

/-- ITS FALSE NEIGHBOUR: 'it returns false'. Refute it at one input. -/
def teamMostWrong : ChangeSpec := { name := "teamMost", fn := fun _ => fun
  | [d1, d2] => { results := [.lit (.bool false)], args := [d1, d2] }
  | _ => none }
def TeamMostWrongFalsely : Prop := teamMostRow.holds Try.pinned (OpenSpec.ofChange teamMostWrong)

/-- 'curfewlaw3.TeamMeet': WHATEVER THE INPUT: true; the input reads as it did. -/
def teamMeetSpec : ChangeSpec := { name := "teamMeet", fn := fun _ => fun
  | [d1, d2, d3] => { results := [.lit (.bool true)], args := [d1, d2, d3] }
  | _ => none }
def teamMeetRow : OpenClaim := { program := "ytfhfhljjhgdbiaa", sum := "0b53d793d4f89c486f844cfa2b39df33decad679b8dc2079778e41d021536266", func := "curfew/curfewlaw3.TeamMeet", spec := "teamMeet", apart := false }
def TeamMeetSaid : Prop := teamMeetRow.holds Try.pinned (OpenSpec.ofChange teamMeetSpec)

/-- ITS FALSE NEIGHBOUR: 'it returns false'. Refute it at one input. -/
def teamMeetWrong : ChangeSpec := { name := "teamMeet", fn := fun _ => fun
  | [d1, d2, d3] => { results := [.lit (.bool false)], args := [d1, d2, d3] }
  | _ => none }
def TeamMeetWrongFalsely : Prop := teamMeetRow.holds Try.pinned (OpenSpec.ofChange teamMeetWrong)

/-- 'curfewlaw3.TeamDecider': WHATEVER THE INPUT: true; the input reads as it did. -/
def teamDeciderSpec : ChangeSpec := { name := "teamDecider", fn := fun _ => fun
  | [d1, d2] => { results := [.lit (.bool true)], args := [d1, d2] }
  | _ => none }
def teamDeciderRow : OpenClaim := { program := "ytfhfhljjhgdbiaa", sum := "0b53d793d4f89c486f844cfa2b39df33decad679b8dc2079778e41d021536266", func := "curfew/curfewlaw3.TeamDecider", spec := "teamDecider", apart := false }
def TeamDeciderSaid : Prop := teamDeciderRow.holds Try.pinned (OpenSpec.ofChange teamDeciderSpec)

/-- ITS FALSE NEIGHBOUR: 'it returns false'. Refute it at one input. -/
def teamDeciderWrong : ChangeSpec := { name := "teamDecider", fn := fun _ => fun
  | [d1, d2] => { results := [.lit (.bool false)], args := [d1, d2] }
  | _ => none }
def TeamDeciderWrongFalsely : Prop := teamDeciderRow.holds Try.pinned (OpenSpec.ofChange teamDeciderWrong)

/-- 'curfewlaw3.TeamTurn': WHATEVER THE INPUT: true; the input reads as it did. -/
def teamTurnSpec : ChangeSpec := { name := "teamTurn", fn := fun _ => fun
  | [d1, d2] => { results := [.lit (.bool true)], args := [d1, d2] }
  | _ => none }
def teamTurnRow : OpenClaim := { program := "ytfhfhljjhgdbiaa", sum := "0b53d793d4f89c486f844cfa2b39df33decad679b8dc2079778e41d021536266", func := "curfew/curfewlaw3.TeamTurn", spec := "teamTurn", apart := false }
def TeamTurnSaid : Prop := teamTurnRow.holds Try.pinned (OpenSpec.ofChange teamTurnSpec)

/-- ITS FALSE NEIGHBOUR: 'it returns false'. Refute it at one input. -/
def teamTurnWrong : ChangeSpec := { name := "teamTurn", fn := fun _ => fun
  | [d1, d2] => { results := [.lit (.bool false)], args := [d1, d2] }
  | _ => none }
def TeamTurnWrongFalsely : Prop := teamTurnRow.holds Try.pinned (OpenSpec.ofChange teamTurnWrong)

/-- 'curfewlaw3.TeamCount': WHATEVER THE INPUT: true; the input reads as it did. -/
def teamCountSpec : ChangeSpec := { name := "teamCount", fn := fun _ => fun
  | [d1, d2] => { results := [.lit (.bool true)], args := [d1, d2] }
  | _ => none }
def teamCountRow : OpenClaim := { program := "ytfhfhljjhgdbiaa", sum := "0b53d793d4f89c486f844cfa2b39df33decad679b8dc2079778e41d021536266", func := "curfew/curfewlaw3.TeamCount", spec := "teamCount", apart := false }
def TeamCountSaid : Prop := teamCountRow.holds Try.pinned (OpenSpec.ofChange teamCountSpec)

/-- ITS FALSE NEIGHBOUR: 'it returns false'. Refute it at one input. -/
def teamCountWrong : ChangeSpec := { name := "teamCount", fn := fun _ => fun
  | [d1, d2] => { results := [.lit (.bool false)], args := [d1, d2] }
  | _ => none }
def TeamCountWrongFalsely : Prop := teamCountRow.holds Try.pinned (OpenSpec.ofChange teamCountWrong)

/- THE SECOND FORM. 'bulk': how many values and letters a reading holds, each counted each time it is reached (what is shared counts as often as it is met; a slice's spare places count too). A statement '..UptoSaid' is the law's where the arguments, and the package variables that the reading takes, are together of bulk at most 1048576: NARROWER than '..Said'. Prove '..Said' where nothing that the law and all that it calls make is longer than what came in: it says more and counts as full. Else prove '..UptoSaid'. A law counts once. -/
mutual
def uptoBulk {H : Type} : DataW H → Nat
  | .lit (.string bytes) => bytes.length + 1
  | .lit _ => 1
  | .nil => 1
  | .ptr d => uptoBulk d + 1
  | .slice elems spare => uptoBulkAll elems + uptoBulkAll spare + 1
  | .agg parts => uptoBulkAll parts + 1
  | .iface _ d => uptoBulk d + 1
  | .map entries => uptoBulkEntries entries + 1
  | .held _ => 1
def uptoBulkAll {H : Type} : List (DataW H) → Nat
  | [] => 0
  | d :: r => uptoBulk d + uptoBulkAll r
def uptoBulkEntries {H : Type} : List (Lit × DataW H) → Nat
  | [] => 0
  | x :: r => uptoBulkEntry x + uptoBulkEntries r
def uptoBulkEntry {H : Type} : Lit × DataW H → Nat
  | (.string bytes, d) => bytes.length + uptoBulk d + 1
  | (_, d) => uptoBulk d + 1
 end
def uptoSmall : (H : Type) → List (DataW H) → Bool := fun _ ds => decide (uptoBulkAll ds ≤ 1048576)
def OpenSpec.upto (s : _root_.Go.ChangeSpec) : _root_.Go.OpenSpec := { _root_.Go.OpenSpec.ofChange s with cond := some uptoSmall }

/-- 'curfewlaw3.TeamOf', WHERE WHAT IT READS IS OF BULK AT MOST 1048576: true; the input reads as it did. -/
def teamOfUptoRow : OpenClaim := { program := "ytfhfhljjhgdbiaa", sum := "0b53d793d4f89c486f844cfa2b39df33decad679b8dc2079778e41d021536266", func := "curfew/curfewlaw3.TeamOf", spec := "teamOf", apart := false, narrowed := true }
def TeamOfUptoSaid : Prop := teamOfUptoRow.holds Try.pinned (OpenSpec.upto teamOfSpec)

/-- 'curfewlaw3.TeamSets', WHERE WHAT IT READS IS OF BULK AT MOST 1048576: true; the input reads as it did. -/
def teamSetsUptoRow : OpenClaim := { program := "ytfhfhljjhgdbiaa", sum := "0b53d793d4f89c486f844cfa2b39df33decad679b8dc2079778e41d021536266", func := "curfew/curfewlaw3.TeamSets", spec := "teamSets", apart := false, narrowed := true }
def TeamSetsUptoSaid : Prop := teamSetsUptoRow.holds Try.pinned (OpenSpec.upto teamSetsSpec)

/-- 'curfewlaw3.TeamMost', WHERE WHAT IT READS IS OF BULK AT MOST 1048576: true; the input reads as it did. -/
def teamMostUptoRow : OpenClaim := { program := "ytfhfhljjhgdbiaa", sum := "0b53d793d4f89c486f844cfa2b39df33decad679b8dc2079778e41d021536266", func := "curfew/curfewlaw3.TeamMost", spec := "teamMost", apart := false, narrowed := true }
def TeamMostUptoSaid : Prop := teamMostUptoRow.holds Try.pinned (OpenSpec.upto teamMostSpec)

/-- 'curfewlaw3.TeamMeet', WHERE WHAT IT READS IS OF BULK AT MOST 1048576: true; the input reads as it did. -/
def teamMeetUptoRow : OpenClaim := { program := "ytfhfhljjhgdbiaa", sum := "0b53d793d4f89c486f844cfa2b39df33decad679b8dc2079778e41d021536266", func := "curfew/curfewlaw3.TeamMeet", spec := "teamMeet", apart := false, narrowed := true }
def TeamMeetUptoSaid : Prop := teamMeetUptoRow.holds Try.pinned (OpenSpec.upto teamMeetSpec)

/-- 'curfewlaw3.TeamDecider', WHERE WHAT IT READS IS OF BULK AT MOST 1048576: true; the input reads as it did. -/
def teamDeciderUptoRow : OpenClaim := { program := "ytfhfhljjhgdbiaa", sum := "0b53d793d4f89c486f844cfa2b39df33decad679b8dc2079778e41d021536266", func := "curfew/curfewlaw3.TeamDecider", spec := "teamDecider", apart := false, narrowed := true }
def TeamDeciderUptoSaid : Prop := teamDeciderUptoRow.holds Try.pinned (OpenSpec.upto teamDeciderSpec)

/-- 'curfewlaw3.TeamTurn', WHERE WHAT IT READS IS OF BULK AT MOST 1048576: true; the input reads as it did. -/
def teamTurnUptoRow : OpenClaim := { program := "ytfhfhljjhgdbiaa", sum := "0b53d793d4f89c486f844cfa2b39df33decad679b8dc2079778e41d021536266", func := "curfew/curfewlaw3.TeamTurn", spec := "teamTurn", apart := false, narrowed := true }
def TeamTurnUptoSaid : Prop := teamTurnUptoRow.holds Try.pinned (OpenSpec.upto teamTurnSpec)

/-- 'curfewlaw3.TeamCount', WHERE WHAT IT READS IS OF BULK AT MOST 1048576: true; the input reads as it did. -/
def teamCountUptoRow : OpenClaim := { program := "ytfhfhljjhgdbiaa", sum := "0b53d793d4f89c486f844cfa2b39df33decad679b8dc2079778e41d021536266", func := "curfew/curfewlaw3.TeamCount", spec := "teamCount", apart := false, narrowed := true }
def TeamCountUptoSaid : Prop := teamCountUptoRow.holds Try.pinned (OpenSpec.upto teamCountSpec)

end Rows
end Go.Proofs.Ytfhfhljjhgdbiaa
