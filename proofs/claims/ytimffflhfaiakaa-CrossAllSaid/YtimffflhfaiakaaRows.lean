/-
  No cell of these rows narrows 'for every input' (looked for: loops, veiled, ifaces, maps, wideKeys, modest, calm, conditions, laid).
  DERIVED. THE GIVEN ROWS OF THIS SEAT. 12 by the template 'for every input the law returns true; each argument reads behind the call as it read before'; 0 by the template 'total and deterministic' (their statements: YtimffflhfaiakaaTotals.lean).
  GIVEN WITH THE SEED: the statements are not yours to turn. If you find one false, say at which input.
  Laid BY PROGRAM, IN A SANDBOX (cutbox-rows.mjs): the forced cells as the released guide's own fill.sh prints them over the translation 48f46782dfd80257… (all of the seat's roots in one cut). By AI agents, Wed Nov 11 2026. No macro, syntax, notation, axiom, sorry.
-/
import Derived.Test.YtimffflhfaiakaaChecked
import GoSem.Claim
import GoSem.ClaimJoined
import GoSem.ClaimMapViews
import Derived.JoinedTies
import Derived.KernelRfl
namespace Go.Proofs.Ytimffflhfaiakaa
/- THE CELL 'sum', in the pinned program and in every row, IS THE sha256 OF THE DUMP (.gsa) THAT YtimffflhfaiakaaProg.lean LOADS. Nothing in Lean hashes anything: it is a label: what it is worth is what the hold of that sum in a sandbox is worth. -/
noncomputable def Try.pinned : Pinned := { name := "ytimffflhfaiakaa", sum := "48f46782dfd802577be2c7a0155a1f98d51ef91b1ef39773aeac675fc6d1adea", checked := Try.checked }
namespace Rows
def none {H : Type} : Left H := { results := [], args := [] }

/-- 'curfewlaw10.CrossAll': WHATEVER THE INPUT: true; the input reads as it did. -/
def crossAllSpec : ChangeSpec := { name := "crossAll", fn := fun _ => fun
  | [d1, d2, d3] => { results := [.lit (.bool true)], args := [d1, d2, d3] }
  | _ => none }
def crossAllRow : OpenClaim := { program := "ytimffflhfaiakaa", sum := "48f46782dfd802577be2c7a0155a1f98d51ef91b1ef39773aeac675fc6d1adea", func := "curfew/curfewlaw10.CrossAll", spec := "crossAll", recurses := true, apart := false }
def CrossAllSaid : Prop := crossAllRow.holds Try.pinned (OpenSpec.ofChange crossAllSpec)

/-- ITS FALSE NEIGHBOUR: 'it returns false'. Refute it at one input. -/
def crossAllWrong : ChangeSpec := { name := "crossAll", fn := fun _ => fun
  | [d1, d2, d3] => { results := [.lit (.bool false)], args := [d1, d2, d3] }
  | _ => none }
def CrossAllWrongFalsely : Prop := crossAllRow.holds Try.pinned (OpenSpec.ofChange crossAllWrong)

/-- 'curfewlaw10.CrossTrue': WHATEVER THE INPUT: true; the input reads as it did. -/
def crossTrueSpec : ChangeSpec := { name := "crossTrue", fn := fun _ => fun
  | [d1, d2] => { results := [.lit (.bool true)], args := [d1, d2] }
  | _ => none }
def crossTrueRow : OpenClaim := { program := "ytimffflhfaiakaa", sum := "48f46782dfd802577be2c7a0155a1f98d51ef91b1ef39773aeac675fc6d1adea", func := "curfew/curfewlaw10.CrossTrue", spec := "crossTrue", recurses := true, apart := false }
def CrossTrueSaid : Prop := crossTrueRow.holds Try.pinned (OpenSpec.ofChange crossTrueSpec)

/-- ITS FALSE NEIGHBOUR: 'it returns false'. Refute it at one input. -/
def crossTrueWrong : ChangeSpec := { name := "crossTrue", fn := fun _ => fun
  | [d1, d2] => { results := [.lit (.bool false)], args := [d1, d2] }
  | _ => none }
def CrossTrueWrongFalsely : Prop := crossTrueRow.holds Try.pinned (OpenSpec.ofChange crossTrueWrong)

/-- 'curfewlaw10.CrossOrder': WHATEVER THE INPUT: true; the input reads as it did. -/
def crossOrderSpec : ChangeSpec := { name := "crossOrder", fn := fun _ => fun
  | [d1, d2] => { results := [.lit (.bool true)], args := [d1, d2] }
  | _ => none }
def crossOrderRow : OpenClaim := { program := "ytimffflhfaiakaa", sum := "48f46782dfd802577be2c7a0155a1f98d51ef91b1ef39773aeac675fc6d1adea", func := "curfew/curfewlaw10.CrossOrder", spec := "crossOrder", recurses := true, apart := false }
def CrossOrderSaid : Prop := crossOrderRow.holds Try.pinned (OpenSpec.ofChange crossOrderSpec)

/-- ITS FALSE NEIGHBOUR: 'it returns false'. Refute it at one input. -/
def crossOrderWrong : ChangeSpec := { name := "crossOrder", fn := fun _ => fun
  | [d1, d2] => { results := [.lit (.bool false)], args := [d1, d2] }
  | _ => none }
def CrossOrderWrongFalsely : Prop := crossOrderRow.holds Try.pinned (OpenSpec.ofChange crossOrderWrong)

/-- 'curfewlaw10.CrossBest': WHATEVER THE INPUT: true; the input reads as it did. -/
def crossBestSpec : ChangeSpec := { name := "crossBest", fn := fun _ => fun
  | [d1, d2] => { results := [.lit (.bool true)], args := [d1, d2] }
  | _ => none }
def crossBestRow : OpenClaim := { program := "ytimffflhfaiakaa", sum := "48f46782dfd802577be2c7a0155a1f98d51ef91b1ef39773aeac675fc6d1adea", func := "curfew/curfewlaw10.CrossBest", spec := "crossBest", recurses := true, apart := false }
def CrossBestSaid : Prop := crossBestRow.holds Try.pinned (OpenSpec.ofChange crossBestSpec)

/-- ITS FALSE NEIGHBOUR: 'it returns false'. Refute it at one input. -/
def crossBestWrong : ChangeSpec := { name := "crossBest", fn := fun _ => fun
  | [d1, d2] => { results := [.lit (.bool false)], args := [d1, d2] }
  | _ => none }
def CrossBestWrongFalsely : Prop := crossBestRow.holds Try.pinned (OpenSpec.ofChange crossBestWrong)

/-- 'curfewlaw10.CrossMore': WHATEVER THE INPUT: true; the input reads as it did. -/
def crossMoreSpec : ChangeSpec := { name := "crossMore", fn := fun _ => fun
  | [d1, d2, d3] => { results := [.lit (.bool true)], args := [d1, d2, d3] }
  | _ => none }
def crossMoreRow : OpenClaim := { program := "ytimffflhfaiakaa", sum := "48f46782dfd802577be2c7a0155a1f98d51ef91b1ef39773aeac675fc6d1adea", func := "curfew/curfewlaw10.CrossMore", spec := "crossMore", recurses := true, apart := false }
def CrossMoreSaid : Prop := crossMoreRow.holds Try.pinned (OpenSpec.ofChange crossMoreSpec)

/-- ITS FALSE NEIGHBOUR: 'it returns false'. Refute it at one input. -/
def crossMoreWrong : ChangeSpec := { name := "crossMore", fn := fun _ => fun
  | [d1, d2, d3] => { results := [.lit (.bool false)], args := [d1, d2, d3] }
  | _ => none }
def CrossMoreWrongFalsely : Prop := crossMoreRow.holds Try.pinned (OpenSpec.ofChange crossMoreWrong)

/-- 'curfewlaw10.CrossMost': WHATEVER THE INPUT: true; the input reads as it did. -/
def crossMostSpec : ChangeSpec := { name := "crossMost", fn := fun _ => fun
  | [d1, d2, d3] => { results := [.lit (.bool true)], args := [d1, d2, d3] }
  | _ => none }
def crossMostRow : OpenClaim := { program := "ytimffflhfaiakaa", sum := "48f46782dfd802577be2c7a0155a1f98d51ef91b1ef39773aeac675fc6d1adea", func := "curfew/curfewlaw10.CrossMost", spec := "crossMost", recurses := true, apart := false }
def CrossMostSaid : Prop := crossMostRow.holds Try.pinned (OpenSpec.ofChange crossMostSpec)

/-- ITS FALSE NEIGHBOUR: 'it returns false'. Refute it at one input. -/
def crossMostWrong : ChangeSpec := { name := "crossMost", fn := fun _ => fun
  | [d1, d2, d3] => { results := [.lit (.bool false)], args := [d1, d2, d3] }
  | _ => none }
def CrossMostWrongFalsely : Prop := crossMostRow.holds Try.pinned (OpenSpec.ofChange crossMostWrong)

/-- 'curfewlaw21.QuorumAll': WHATEVER THE INPUT: true; the input reads as it did. -/
def quorumAllSpec : ChangeSpec := { name := "quorumAll", fn := fun _ => fun
  | [d1, d2, d3, d4] => { results := [.lit (.bool true)], args := [d1, d2, d3, d4] }
  | _ => none }
def quorumAllRow : OpenClaim := { program := "ytimffflhfaiakaa", sum := "48f46782dfd802577be2c7a0155a1f98d51ef91b1ef39773aeac675fc6d1adea", func := "curfew/curfewlaw21.QuorumAll", spec := "quorumAll", recurses := true, apart := false }
def QuorumAllSaid : Prop := quorumAllRow.holds Try.pinned (OpenSpec.ofChange quorumAllSpec)

/-- ITS FALSE NEIGHBOUR: 'it returns false'. Refute it at one input. -/
def quorumAllWrong : ChangeSpec := { name := "quorumAll", fn := fun _ => fun
  | [d1, d2, d3, d4] => { results := [.lit (.bool false)], args := [d1, d2, d3, d4] }
  | _ => none }
def QuorumAllWrongFalsely : Prop := quorumAllRow.holds Try.pinned (OpenSpec.ofChange quorumAllWrong)

/-- 'curfewlaw21.QuorumMost': WHATEVER THE INPUT: true; the input reads as it did. -/
def quorumMostSpec : ChangeSpec := { name := "quorumMost", fn := fun _ => fun
  | [d1, d2, d3] => { results := [.lit (.bool true)], args := [d1, d2, d3] }
  | _ => none }
def quorumMostRow : OpenClaim := { program := "ytimffflhfaiakaa", sum := "48f46782dfd802577be2c7a0155a1f98d51ef91b1ef39773aeac675fc6d1adea", func := "curfew/curfewlaw21.QuorumMost", spec := "quorumMost", recurses := true, apart := false }
def QuorumMostSaid : Prop := quorumMostRow.holds Try.pinned (OpenSpec.ofChange quorumMostSpec)

/-- ITS FALSE NEIGHBOUR: 'it returns false'. Refute it at one input. -/
def quorumMostWrong : ChangeSpec := { name := "quorumMost", fn := fun _ => fun
  | [d1, d2, d3] => { results := [.lit (.bool false)], args := [d1, d2, d3] }
  | _ => none }
def QuorumMostWrongFalsely : Prop := quorumMostRow.holds Try.pinned (OpenSpec.ofChange quorumMostWrong)

/-- 'curfewlaw21.QuorumProbes': WHATEVER THE INPUT: true; the input reads as it did. -/
def quorumProbesSpec : ChangeSpec := { name := "quorumProbes", fn := fun _ => fun
  | [d1, d2, d3, d4] => { results := [.lit (.bool true)], args := [d1, d2, d3, d4] }
  | _ => none }
def quorumProbesRow : OpenClaim := { program := "ytimffflhfaiakaa", sum := "48f46782dfd802577be2c7a0155a1f98d51ef91b1ef39773aeac675fc6d1adea", func := "curfew/curfewlaw21.QuorumProbes", spec := "quorumProbes", recurses := true, apart := false }
def QuorumProbesSaid : Prop := quorumProbesRow.holds Try.pinned (OpenSpec.ofChange quorumProbesSpec)

/-- ITS FALSE NEIGHBOUR: 'it returns false'. Refute it at one input. -/
def quorumProbesWrong : ChangeSpec := { name := "quorumProbes", fn := fun _ => fun
  | [d1, d2, d3, d4] => { results := [.lit (.bool false)], args := [d1, d2, d3, d4] }
  | _ => none }
def QuorumProbesWrongFalsely : Prop := quorumProbesRow.holds Try.pinned (OpenSpec.ofChange quorumProbesWrong)

/-- 'curfewlaw21.QuorumNone': WHATEVER THE INPUT: true; the input reads as it did. -/
def quorumNoneSpec : ChangeSpec := { name := "quorumNone", fn := fun _ => fun
  | [] => { results := [.lit (.bool true)], args := [] }
  | _ => none }
def quorumNoneRow : OpenClaim := { program := "ytimffflhfaiakaa", sum := "48f46782dfd802577be2c7a0155a1f98d51ef91b1ef39773aeac675fc6d1adea", func := "curfew/curfewlaw21.QuorumNone", spec := "quorumNone", recurses := true, apart := false }
def QuorumNoneSaid : Prop := quorumNoneRow.holds Try.pinned (OpenSpec.ofChange quorumNoneSpec)

/-- ITS FALSE NEIGHBOUR: 'it returns false'. Refute it at one input. -/
def quorumNoneWrong : ChangeSpec := { name := "quorumNone", fn := fun _ => fun
  | [] => { results := [.lit (.bool false)], args := [] }
  | _ => none }
def QuorumNoneWrongFalsely : Prop := quorumNoneRow.holds Try.pinned (OpenSpec.ofChange quorumNoneWrong)

/-- 'curfewlaw21.QuorumRise': WHATEVER THE INPUT: true; the input reads as it did. -/
def quorumRiseSpec : ChangeSpec := { name := "quorumRise", fn := fun _ => fun
  | [d1, d2, d3] => { results := [.lit (.bool true)], args := [d1, d2, d3] }
  | _ => none }
def quorumRiseRow : OpenClaim := { program := "ytimffflhfaiakaa", sum := "48f46782dfd802577be2c7a0155a1f98d51ef91b1ef39773aeac675fc6d1adea", func := "curfew/curfewlaw21.QuorumRise", spec := "quorumRise", recurses := true, apart := false }
def QuorumRiseSaid : Prop := quorumRiseRow.holds Try.pinned (OpenSpec.ofChange quorumRiseSpec)

/-- ITS FALSE NEIGHBOUR: 'it returns false'. Refute it at one input. -/
def quorumRiseWrong : ChangeSpec := { name := "quorumRise", fn := fun _ => fun
  | [d1, d2, d3] => { results := [.lit (.bool false)], args := [d1, d2, d3] }
  | _ => none }
def QuorumRiseWrongFalsely : Prop := quorumRiseRow.holds Try.pinned (OpenSpec.ofChange quorumRiseWrong)

/-- 'curfewlaw21.QuorumMeet': WHATEVER THE INPUT: true; the input reads as it did. -/
def quorumMeetSpec : ChangeSpec := { name := "quorumMeet", fn := fun _ => fun
  | [d1, d2, d3, d4] => { results := [.lit (.bool true)], args := [d1, d2, d3, d4] }
  | _ => none }
def quorumMeetRow : OpenClaim := { program := "ytimffflhfaiakaa", sum := "48f46782dfd802577be2c7a0155a1f98d51ef91b1ef39773aeac675fc6d1adea", func := "curfew/curfewlaw21.QuorumMeet", spec := "quorumMeet", recurses := true, apart := false }
def QuorumMeetSaid : Prop := quorumMeetRow.holds Try.pinned (OpenSpec.ofChange quorumMeetSpec)

/-- ITS FALSE NEIGHBOUR: 'it returns false'. Refute it at one input. -/
def quorumMeetWrong : ChangeSpec := { name := "quorumMeet", fn := fun _ => fun
  | [d1, d2, d3, d4] => { results := [.lit (.bool false)], args := [d1, d2, d3, d4] }
  | _ => none }
def QuorumMeetWrongFalsely : Prop := quorumMeetRow.holds Try.pinned (OpenSpec.ofChange quorumMeetWrong)

/- THE SECOND FORM. 'bulk': how many values and letters a reading holds, each counted each time it is reached (what is shared counts as often as it is met; a slice's spare places count too). A statement '..UptoSaid' is the law's where the arguments, and the package variables that the reading takes, are together of bulk at most 1048576: NARROWER than '..Said'. Prove '..Said' where nothing that the law and all that it calls make is longer than what came in: it says more and counts as full. Else prove '..UptoSaid'. A law counts once. -/
mutual
def uptoBulk {H : Type} : DataW H → Nat
  | .lit (.string bytes) => bytes.length + 1
  | .lit _ => 1
  | .nil => 1
  | .ptr d => uptoBulk d + 1
  | .slice elems spare => uptoBulkAll elems + uptoBulkAll spare + 1
  | .agg parts => uptoBulkAll parts + 1
  | .iface _ d => uptoBulk d + 1
  | .map entries => uptoBulkEntries entries + 1
  | .held _ => 1
def uptoBulkAll {H : Type} : List (DataW H) → Nat
  | [] => 0
  | d :: r => uptoBulk d + uptoBulkAll r
def uptoBulkEntries {H : Type} : List (Lit × DataW H) → Nat
  | [] => 0
  | x :: r => uptoBulkEntry x + uptoBulkEntries r
def uptoBulkEntry {H : Type} : Lit × DataW H → Nat
  | (.string bytes, d) => bytes.length + uptoBulk d + 1
  | (_, d) => uptoBulk d + 1
 end
def uptoSmall : (H : Type) → List (DataW H) → Bool := fun _ ds => decide (uptoBulkAll ds ≤ 1048576)
def OpenSpec.upto (s : _root_.Go.ChangeSpec) : _root_.Go.OpenSpec := { _root_.Go.OpenSpec.ofChange s with cond := some uptoSmall }

/-- 'curfewlaw10.CrossAll', WHERE WHAT IT READS IS OF BULK AT MOST 1048576: true; the input reads as it did. -/
def crossAllUptoRow : OpenClaim := { program := "ytimffflhfaiakaa", sum := "48f46782dfd802577be2c7a0155a1f98d51ef91b1ef39773aeac675fc6d1adea", func := "curfew/curfewlaw10.CrossAll", spec := "crossAll", recurses := true, apart := false, narrowed := true }
def CrossAllUptoSaid : Prop := crossAllUptoRow.holds Try.pinned (OpenSpec.upto crossAllSpec)

/-- 'curfewlaw10.CrossTrue', WHERE WHAT IT READS IS OF BULK AT MOST 1048576: true; the input reads as it did. -/
def crossTrueUptoRow : OpenClaim := { program := "ytimffflhfaiakaa", sum := "48f46782dfd802577be2c7a0155a1f98d51ef91b1ef39773aeac675fc6d1adea", func := "curfew/curfewlaw10.CrossTrue", spec := "crossTrue", recurses := true, apart := false, narrowed := true }
def CrossTrueUptoSaid : Prop := crossTrueUptoRow.holds Try.pinned (OpenSpec.upto crossTrueSpec)

/-- 'curfewlaw10.CrossOrder', WHERE WHAT IT READS IS OF BULK AT MOST 1048576: true; the input reads as it did. -/
def crossOrderUptoRow : OpenClaim := { program := "ytimffflhfaiakaa", sum := "48f46782dfd802577be2c7a0155a1f98d51ef91b1ef39773aeac675fc6d1adea", func := "curfew/curfewlaw10.CrossOrder", spec := "crossOrder", recurses := true, apart := false, narrowed := true }
def CrossOrderUptoSaid : Prop := crossOrderUptoRow.holds Try.pinned (OpenSpec.upto crossOrderSpec)

/-- 'curfewlaw10.CrossBest', WHERE WHAT IT READS IS OF BULK AT MOST 1048576: true; the input reads as it did. -/
def crossBestUptoRow : OpenClaim := { program := "ytimffflhfaiakaa", sum := "48f46782dfd802577be2c7a0155a1f98d51ef91b1ef39773aeac675fc6d1adea", func := "curfew/curfewlaw10.CrossBest", spec := "crossBest", recurses := true, apart := false, narrowed := true }
def CrossBestUptoSaid : Prop := crossBestUptoRow.holds Try.pinned (OpenSpec.upto crossBestSpec)

/-- 'curfewlaw10.CrossMore', WHERE WHAT IT READS IS OF BULK AT MOST 1048576: true; the input reads as it did. -/
def crossMoreUptoRow : OpenClaim := { program := "ytimffflhfaiakaa", sum := "48f46782dfd802577be2c7a0155a1f98d51ef91b1ef39773aeac675fc6d1adea", func := "curfew/curfewlaw10.CrossMore", spec := "crossMore", recurses := true, apart := false, narrowed := true }
def CrossMoreUptoSaid : Prop := crossMoreUptoRow.holds Try.pinned (OpenSpec.upto crossMoreSpec)

/-- 'curfewlaw10.CrossMost', WHERE WHAT IT READS IS OF BULK AT MOST 1048576: true; the input reads as it did. -/
def crossMostUptoRow : OpenClaim := { program := "ytimffflhfaiakaa", sum := "48f46782dfd802577be2c7a0155a1f98d51ef91b1ef39773aeac675fc6d1adea", func := "curfew/curfewlaw10.CrossMost", spec := "crossMost", recurses := true, apart := false, narrowed := true }
def CrossMostUptoSaid : Prop := crossMostUptoRow.holds Try.pinned (OpenSpec.upto crossMostSpec)

/-- 'curfewlaw21.QuorumAll', WHERE WHAT IT READS IS OF BULK AT MOST 1048576: true; the input reads as it did. -/
def quorumAllUptoRow : OpenClaim := { program := "ytimffflhfaiakaa", sum := "48f46782dfd802577be2c7a0155a1f98d51ef91b1ef39773aeac675fc6d1adea", func := "curfew/curfewlaw21.QuorumAll", spec := "quorumAll", recurses := true, apart := false, narrowed := true }
def QuorumAllUptoSaid : Prop := quorumAllUptoRow.holds Try.pinned (OpenSpec.upto quorumAllSpec)

/-- 'curfewlaw21.QuorumMost', WHERE WHAT IT READS IS OF BULK AT MOST 1048576: true; the input reads as it did. -/
def quorumMostUptoRow : OpenClaim := { program := "ytimffflhfaiakaa", sum := "48f46782dfd802577be2c7a0155a1f98d51ef91b1ef39773aeac675fc6d1adea", func := "curfew/curfewlaw21.QuorumMost", spec := "quorumMost", recurses := true, apart := false, narrowed := true }
def QuorumMostUptoSaid : Prop := quorumMostUptoRow.holds Try.pinned (OpenSpec.upto quorumMostSpec)

/-- 'curfewlaw21.QuorumProbes', WHERE WHAT IT READS IS OF BULK AT MOST 1048576: true; the input reads as it did. -/
def quorumProbesUptoRow : OpenClaim := { program := "ytimffflhfaiakaa", sum := "48f46782dfd802577be2c7a0155a1f98d51ef91b1ef39773aeac675fc6d1adea", func := "curfew/curfewlaw21.QuorumProbes", spec := "quorumProbes", recurses := true, apart := false, narrowed := true }
def QuorumProbesUptoSaid : Prop := quorumProbesUptoRow.holds Try.pinned (OpenSpec.upto quorumProbesSpec)

/-- 'curfewlaw21.QuorumNone', WHERE WHAT IT READS IS OF BULK AT MOST 1048576: true; the input reads as it did. -/
def quorumNoneUptoRow : OpenClaim := { program := "ytimffflhfaiakaa", sum := "48f46782dfd802577be2c7a0155a1f98d51ef91b1ef39773aeac675fc6d1adea", func := "curfew/curfewlaw21.QuorumNone", spec := "quorumNone", recurses := true, apart := false, narrowed := true }
def QuorumNoneUptoSaid : Prop := quorumNoneUptoRow.holds Try.pinned (OpenSpec.upto quorumNoneSpec)

/-- 'curfewlaw21.QuorumRise', WHERE WHAT IT READS IS OF BULK AT MOST 1048576: true; the input reads as it did. -/
def quorumRiseUptoRow : OpenClaim := { program := "ytimffflhfaiakaa", sum := "48f46782dfd802577be2c7a0155a1f98d51ef91b1ef39773aeac675fc6d1adea", func := "curfew/curfewlaw21.QuorumRise", spec := "quorumRise", recurses := true, apart := false, narrowed := true }
def QuorumRiseUptoSaid : Prop := quorumRiseUptoRow.holds Try.pinned (OpenSpec.upto quorumRiseSpec)

/-- 'curfewlaw21.QuorumMeet', WHERE WHAT IT READS IS OF BULK AT MOST 1048576: true; the input reads as it did. -/
def quorumMeetUptoRow : OpenClaim := { program := "ytimffflhfaiakaa", sum := "48f46782dfd802577be2c7a0155a1f98d51ef91b1ef39773aeac675fc6d1adea", func := "curfew/curfewlaw21.QuorumMeet", spec := "quorumMeet", recurses := true, apart := false, narrowed := true }
def QuorumMeetUptoSaid : Prop := quorumMeetUptoRow.holds Try.pinned (OpenSpec.upto quorumMeetSpec)

end Rows
end Go.Proofs.Ytimffflhfaiakaa
