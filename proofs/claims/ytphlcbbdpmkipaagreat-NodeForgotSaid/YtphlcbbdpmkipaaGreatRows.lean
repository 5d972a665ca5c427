/-
  No cell of these rows narrows 'for every input' (looked for: loops, veiled, ifaces, maps, wideKeys, modest, calm, conditions, laid).
  DERIVED. THE GIVEN ROWS OF THIS SEAT. 8 by the template 'for every input the law returns true; each argument reads behind the call as it read before'; 0 by the template 'total and deterministic' (their statements: YtphlcbbdpmkipaaGreatTotals.lean).
  GIVEN WITH THE SEED: the statements are not yours to turn. If you find one false, say at which input.
  Laid BY PROGRAM, IN A SANDBOX (cutbox-rows.mjs): the forced cells as the released guide's own fill.sh prints them over the translation 29310eeeca047461… (all of the seat's roots in one cut). By AI agents, Wed Nov 11 2026. No macro, syntax, notation, axiom, sorry.
-/
import Derived.Test.YtphlcbbdpmkipaaGreatChecked
import GoSem.Claim
import GoSem.ClaimJoined
import GoSem.ClaimMapViews
import Derived.JoinedTies
import Derived.KernelRfl
namespace Go.Proofs.YtphlcbbdpmkipaaGreat
/- THE CELL 'sum', in the pinned program and in every row, IS THE sha256 OF THE DUMP (.gsa) THAT YtphlcbbdpmkipaaGreatProg.lean LOADS. Nothing in Lean hashes anything: it is a label: what it is worth is what the hold of that sum in a sandbox is worth. -/
noncomputable def Tryz.pinned : Pinned := { name := "ytphlcbbdpmkipaagreat", sum := "29310eeeca047461cbd0ad39c921f467110dbdab91a1adb2cefa37203916e657", checked := Tryz.checked }
namespace Rows
def none {H : Type} : Left H := { results := [], args := [] }

/-- 'curfewlaw25.NodePromise': WHATEVER THE INPUT: true; the input reads as it did. -/
def nodePromiseSpec : ChangeSpec := { name := "nodePromise", fn := fun _ => fun
  | [d1, d2, d3] => { results := [.lit (.bool true)], args := [d1, d2, d3] }
  | _ => none }
def nodePromiseRow : OpenClaim := { program := "ytphlcbbdpmkipaagreat", sum := "29310eeeca047461cbd0ad39c921f467110dbdab91a1adb2cefa37203916e657", func := "curfew/curfewlaw25.NodePromise", spec := "nodePromise", inPlace := ["internal/bytealg.IndexByteString", "internal/bytealg.IndexString"], unfollowed := true, recurses := true, named := ["internal/bytealg.MaxLen"], apart := false }
def NodePromiseSaid : Prop := nodePromiseRow.holds Tryz.pinned (OpenSpec.ofChange nodePromiseSpec)

/-- ITS FALSE NEIGHBOUR: 'it returns false'. Refute it at one input. -/
def nodePromiseWrong : ChangeSpec := { name := "nodePromise", fn := fun _ => fun
  | [d1, d2, d3] => { results := [.lit (.bool false)], args := [d1, d2, d3] }
  | _ => none }
def NodePromiseWrongFalsely : Prop := nodePromiseRow.holds Tryz.pinned (OpenSpec.ofChange nodePromiseWrong)

/-- 'curfewlaw25.NodePing': WHATEVER THE INPUT: true; the input reads as it did. -/
def nodePingSpec : ChangeSpec := { name := "nodePing", fn := fun _ => fun
  | [d1, d2, d3, d4] => { results := [.lit (.bool true)], args := [d1, d2, d3, d4] }
  | _ => none }
def nodePingRow : OpenClaim := { program := "ytphlcbbdpmkipaagreat", sum := "29310eeeca047461cbd0ad39c921f467110dbdab91a1adb2cefa37203916e657", func := "curfew/curfewlaw25.NodePing", spec := "nodePing", inPlace := ["internal/bytealg.IndexByteString", "internal/bytealg.IndexString"], unfollowed := true, recurses := true, named := ["internal/bytealg.MaxLen"], apart := false }
def NodePingSaid : Prop := nodePingRow.holds Tryz.pinned (OpenSpec.ofChange nodePingSpec)

/-- ITS FALSE NEIGHBOUR: 'it returns false'. Refute it at one input. -/
def nodePingWrong : ChangeSpec := { name := "nodePing", fn := fun _ => fun
  | [d1, d2, d3, d4] => { results := [.lit (.bool false)], args := [d1, d2, d3, d4] }
  | _ => none }
def NodePingWrongFalsely : Prop := nodePingRow.holds Tryz.pinned (OpenSpec.ofChange nodePingWrong)

/-- 'curfewlaw25.NodePatience': WHATEVER THE INPUT: true; the input reads as it did. -/
def nodePatienceSpec : ChangeSpec := { name := "nodePatience", fn := fun _ => fun
  | [d1, d2] => { results := [.lit (.bool true)], args := [d1, d2] }
  | _ => none }
def nodePatienceRow : OpenClaim := { program := "ytphlcbbdpmkipaagreat", sum := "29310eeeca047461cbd0ad39c921f467110dbdab91a1adb2cefa37203916e657", func := "curfew/curfewlaw25.NodePatience", spec := "nodePatience", inPlace := ["internal/bytealg.IndexByteString", "internal/bytealg.IndexString"], unfollowed := true, recurses := true, named := ["internal/bytealg.MaxLen"], apart := false }
def NodePatienceSaid : Prop := nodePatienceRow.holds Tryz.pinned (OpenSpec.ofChange nodePatienceSpec)

/-- ITS FALSE NEIGHBOUR: 'it returns false'. Refute it at one input. -/
def nodePatienceWrong : ChangeSpec := { name := "nodePatience", fn := fun _ => fun
  | [d1, d2] => { results := [.lit (.bool false)], args := [d1, d2] }
  | _ => none }
def NodePatienceWrongFalsely : Prop := nodePatienceRow.holds Tryz.pinned (OpenSpec.ofChange nodePatienceWrong)

/-- 'curfewlaw25.NodeDenied': WHATEVER THE INPUT: true; the input reads as it did. -/
def nodeDeniedSpec : ChangeSpec := { name := "nodeDenied", fn := fun _ => fun
  | [d1, d2, d3] => { results := [.lit (.bool true)], args := [d1, d2, d3] }
  | _ => none }
def nodeDeniedRow : OpenClaim := { program := "ytphlcbbdpmkipaagreat", sum := "29310eeeca047461cbd0ad39c921f467110dbdab91a1adb2cefa37203916e657", func := "curfew/curfewlaw25.NodeDenied", spec := "nodeDenied", inPlace := ["internal/bytealg.IndexByteString", "internal/bytealg.IndexString"], unfollowed := true, recurses := true, named := ["internal/bytealg.MaxLen"], apart := false }
def NodeDeniedSaid : Prop := nodeDeniedRow.holds Tryz.pinned (OpenSpec.ofChange nodeDeniedSpec)

/-- ITS FALSE NEIGHBOUR: 'it returns false'. Refute it at one input. -/
def nodeDeniedWrong : ChangeSpec := { name := "nodeDenied", fn := fun _ => fun
  | [d1, d2, d3] => { results := [.lit (.bool false)], args := [d1, d2, d3] }
  | _ => none }
def NodeDeniedWrongFalsely : Prop := nodeDeniedRow.holds Tryz.pinned (OpenSpec.ofChange nodeDeniedWrong)

/-- 'curfewlaw25.NodeForgot': WHATEVER THE INPUT: true; the input reads as it did. -/
def nodeForgotSpec : ChangeSpec := { name := "nodeForgot", fn := fun _ => fun
  | [d1, d2, d3, d4, d5, d6] => { results := [.lit (.bool true)], args := [d1, d2, d3, d4, d5, d6] }
  | _ => none }
def nodeForgotRow : OpenClaim := { program := "ytphlcbbdpmkipaagreat", sum := "29310eeeca047461cbd0ad39c921f467110dbdab91a1adb2cefa37203916e657", func := "curfew/curfewlaw25.NodeForgot", spec := "nodeForgot", inPlace := ["internal/bytealg.IndexByteString", "internal/bytealg.IndexString"], unfollowed := true, recurses := true, named := ["internal/bytealg.MaxLen"], apart := false }
def NodeForgotSaid : Prop := nodeForgotRow.holds Tryz.pinned (OpenSpec.ofChange nodeForgotSpec)

/-- ITS FALSE NEIGHBOUR: 'it returns false'. Refute it at one input. -/
def nodeForgotWrong : ChangeSpec := { name := "nodeForgot", fn := fun _ => fun
  | [d1, d2, d3, d4, d5, d6] => { results := [.lit (.bool false)], args := [d1, d2, d3, d4, d5, d6] }
  | _ => none }
def NodeForgotWrongFalsely : Prop := nodeForgotRow.holds Tryz.pinned (OpenSpec.ofChange nodeForgotWrong)

/-- 'curfewlaw25.NodeLate': WHATEVER THE INPUT: true; the input reads as it did. -/
def nodeLateSpec : ChangeSpec := { name := "nodeLate", fn := fun _ => fun
  | [d1, d2, d3, d4, d5] => { results := [.lit (.bool true)], args := [d1, d2, d3, d4, d5] }
  | _ => none }
def nodeLateRow : OpenClaim := { program := "ytphlcbbdpmkipaagreat", sum := "29310eeeca047461cbd0ad39c921f467110dbdab91a1adb2cefa37203916e657", func := "curfew/curfewlaw25.NodeLate", spec := "nodeLate", inPlace := ["internal/bytealg.IndexByteString", "internal/bytealg.IndexString"], unfollowed := true, recurses := true, named := ["internal/bytealg.MaxLen"], apart := false }
def NodeLateSaid : Prop := nodeLateRow.holds Tryz.pinned (OpenSpec.ofChange nodeLateSpec)

/-- ITS FALSE NEIGHBOUR: 'it returns false'. Refute it at one input. -/
def nodeLateWrong : ChangeSpec := { name := "nodeLate", fn := fun _ => fun
  | [d1, d2, d3, d4, d5] => { results := [.lit (.bool false)], args := [d1, d2, d3, d4, d5] }
  | _ => none }
def NodeLateWrongFalsely : Prop := nodeLateRow.holds Tryz.pinned (OpenSpec.ofChange nodeLateWrong)

/-- 'curfewlaw25.NodeNone': WHATEVER THE INPUT: true; the input reads as it did. -/
def nodeNoneSpec : ChangeSpec := { name := "nodeNone", fn := fun _ => fun
  | [] => { results := [.lit (.bool true)], args := [] }
  | _ => none }
def nodeNoneRow : OpenClaim := { program := "ytphlcbbdpmkipaagreat", sum := "29310eeeca047461cbd0ad39c921f467110dbdab91a1adb2cefa37203916e657", func := "curfew/curfewlaw25.NodeNone", spec := "nodeNone", inPlace := ["internal/bytealg.IndexByteString", "internal/bytealg.IndexString"], unfollowed := true, recurses := true, named := ["internal/bytealg.MaxLen"], apart := false }
def NodeNoneSaid : Prop := nodeNoneRow.holds Tryz.pinned (OpenSpec.ofChange nodeNoneSpec)

/-- ITS FALSE NEIGHBOUR: 'it returns false'. Refute it at one input. -/
def nodeNoneWrong : ChangeSpec := { name := "nodeNone", fn := fun _ => fun
  | [] => { results := [.lit (.bool false)], args := [] }
  | _ => none }
def NodeNoneWrongFalsely : Prop := nodeNoneRow.holds Tryz.pinned (OpenSpec.ofChange nodeNoneWrong)

/-- 'curfewlaw25.NodeTeam': WHATEVER THE INPUT: true; the input reads as it did. -/
def nodeTeamSpec : ChangeSpec := { name := "nodeTeam", fn := fun _ => fun
  | [d1, d2, d3] => { results := [.lit (.bool true)], args := [d1, d2, d3] }
  | _ => none }
def nodeTeamRow : OpenClaim := { program := "ytphlcbbdpmkipaagreat", sum := "29310eeeca047461cbd0ad39c921f467110dbdab91a1adb2cefa37203916e657", func := "curfew/curfewlaw25.NodeTeam", spec := "nodeTeam", inPlace := ["internal/bytealg.IndexByteString", "internal/bytealg.IndexString"], unfollowed := true, recurses := true, named := ["internal/bytealg.MaxLen"], apart := false }
def NodeTeamSaid : Prop := nodeTeamRow.holds Tryz.pinned (OpenSpec.ofChange nodeTeamSpec)

/-- ITS FALSE NEIGHBOUR: 'it returns false'. Refute it at one input. -/
def nodeTeamWrong : ChangeSpec := { name := "nodeTeam", fn := fun _ => fun
  | [d1, d2, d3] => { results := [.lit (.bool false)], args := [d1, d2, d3] }
  | _ => none }
def NodeTeamWrongFalsely : Prop := nodeTeamRow.holds Tryz.pinned (OpenSpec.ofChange nodeTeamWrong)

/- THE SECOND FORM. 'bulk': how many values and letters a reading holds, each counted each time it is reached (what is shared counts as often as it is met; a slice's spare places count too). A statement '..UptoSaid' is the law's where the arguments, and the package variables that the reading takes, are together of bulk at most 1048576: NARROWER than '..Said'. Prove '..Said' where nothing that the law and all that it calls make is longer than what came in: it says more and counts as full. Else prove '..UptoSaid'. A law counts once. -/
mutual
def uptoBulk {H : Type} : DataW H → Nat
  | .lit (.string bytes) => bytes.length + 1
  | .lit _ => 1
  | .nil => 1
  | .ptr d => uptoBulk d + 1
  | .slice elems spare => uptoBulkAll elems + uptoBulkAll spare + 1
  | .agg parts => uptoBulkAll parts + 1
  | .iface _ d => uptoBulk d + 1
  | .map entries => uptoBulkEntries entries + 1
  | .held _ => 1
def uptoBulkAll {H : Type} : List (DataW H) → Nat
  | [] => 0
  | d :: r => uptoBulk d + uptoBulkAll r
def uptoBulkEntries {H : Type} : List (Lit × DataW H) → Nat
  | [] => 0
  | x :: r => uptoBulkEntry x + uptoBulkEntries r
def uptoBulkEntry {H : Type} : Lit × DataW H → Nat
  | (.string bytes, d) => bytes.length + uptoBulk d + 1
  | (_, d) => uptoBulk d + 1
 end
def uptoSmall : (H : Type) → List (DataW H) → Bool := fun _ ds => decide (uptoBulkAll ds ≤ 1048576)
def OpenSpec.upto (s : _root_.Go.ChangeSpec) : _root_.Go.OpenSpec := { _root_.Go.OpenSpec.ofChange s with cond := some uptoSmall }

/-- 'curfewlaw25.NodePromise', WHERE WHAT IT READS IS OF BULK AT MOST 1048576: true; the input reads as it did. -/
def nodePromiseUptoRow : OpenClaim := { program := "ytphlcbbdpmkipaagreat", sum := "29310eeeca047461cbd0ad39c921f467110dbdab91a1adb2cefa37203916e657", func := "curfew/curfewlaw25.NodePromise", spec := "nodePromise", inPlace := ["internal/bytealg.IndexByteString", "internal/bytealg.IndexString"], unfollowed := true, recurses := true, named := ["internal/bytealg.MaxLen"], apart := false, narrowed := true }
def NodePromiseUptoSaid : Prop := nodePromiseUptoRow.holds Tryz.pinned (OpenSpec.upto nodePromiseSpec)

/-- 'curfewlaw25.NodePing', WHERE WHAT IT READS IS OF BULK AT MOST 1048576: true; the input reads as it did. -/
def nodePingUptoRow : OpenClaim := { program := "ytphlcbbdpmkipaagreat", sum := "29310eeeca047461cbd0ad39c921f467110dbdab91a1adb2cefa37203916e657", func := "curfew/curfewlaw25.NodePing", spec := "nodePing", inPlace := ["internal/bytealg.IndexByteString", "internal/bytealg.IndexString"], unfollowed := true, recurses := true, named := ["internal/bytealg.MaxLen"], apart := false, narrowed := true }
def NodePingUptoSaid : Prop := nodePingUptoRow.holds Tryz.pinned (OpenSpec.upto nodePingSpec)

/-- 'curfewlaw25.NodePatience', WHERE WHAT IT READS IS OF BULK AT MOST 1048576: true; the input reads as it did. -/
def nodePatienceUptoRow : OpenClaim := { program := "ytphlcbbdpmkipaagreat", sum := "29310eeeca047461cbd0ad39c921f467110dbdab91a1adb2cefa37203916e657", func := "curfew/curfewlaw25.NodePatience", spec := "nodePatience", inPlace := ["internal/bytealg.IndexByteString", "internal/bytealg.IndexString"], unfollowed := true, recurses := true, named := ["internal/bytealg.MaxLen"], apart := false, narrowed := true }
def NodePatienceUptoSaid : Prop := nodePatienceUptoRow.holds Tryz.pinned (OpenSpec.upto nodePatienceSpec)

/-- 'curfewlaw25.NodeDenied', WHERE WHAT IT READS IS OF BULK AT MOST 1048576: true; the input reads as it did. -/
def nodeDeniedUptoRow : OpenClaim := { program := "ytphlcbbdpmkipaagreat", sum := "29310eeeca047461cbd0ad39c921f467110dbdab91a1adb2cefa37203916e657", func := "curfew/curfewlaw25.NodeDenied", spec := "nodeDenied", inPlace := ["internal/bytealg.IndexByteString", "internal/bytealg.IndexString"], unfollowed := true, recurses := true, named := ["internal/bytealg.MaxLen"], apart := false, narrowed := true }
def NodeDeniedUptoSaid : Prop := nodeDeniedUptoRow.holds Tryz.pinned (OpenSpec.upto nodeDeniedSpec)

/-- 'curfewlaw25.NodeForgot', WHERE WHAT IT READS IS OF BULK AT MOST 1048576: true; the input reads as it did. -/
def nodeForgotUptoRow : OpenClaim := { program := "ytphlcbbdpmkipaagreat", sum := "29310eeeca047461cbd0ad39c921f467110dbdab91a1adb2cefa37203916e657", func := "curfew/curfewlaw25.NodeForgot", spec := "nodeForgot", inPlace := ["internal/bytealg.IndexByteString", "internal/bytealg.IndexString"], unfollowed := true, recurses := true, named := ["internal/bytealg.MaxLen"], apart := false, narrowed := true }
def NodeForgotUptoSaid : Prop := nodeForgotUptoRow.holds Tryz.pinned (OpenSpec.upto nodeForgotSpec)

/-- 'curfewlaw25.NodeLate', WHERE WHAT IT READS IS OF BULK AT MOST 1048576: true; the input reads as it did. -/
def nodeLateUptoRow : OpenClaim := { program := "ytphlcbbdpmkipaagreat", sum := "29310eeeca047461cbd0ad39c921f467110dbdab91a1adb2cefa37203916e657", func := "curfew/curfewlaw25.NodeLate", spec := "nodeLate", inPlace := ["internal/bytealg.IndexByteString", "internal/bytealg.IndexString"], unfollowed := true, recurses := true, named := ["internal/bytealg.MaxLen"], apart := false, narrowed := true }
def NodeLateUptoSaid : Prop := nodeLateUptoRow.holds Tryz.pinned (OpenSpec.upto nodeLateSpec)

/-- 'curfewlaw25.NodeNone', WHERE WHAT IT READS IS OF BULK AT MOST 1048576: true; the input reads as it did. -/
def nodeNoneUptoRow : OpenClaim := { program := "ytphlcbbdpmkipaagreat", sum := "29310eeeca047461cbd0ad39c921f467110dbdab91a1adb2cefa37203916e657", func := "curfew/curfewlaw25.NodeNone", spec := "nodeNone", inPlace := ["internal/bytealg.IndexByteString", "internal/bytealg.IndexString"], unfollowed := true, recurses := true, named := ["internal/bytealg.MaxLen"], apart := false, narrowed := true }
def NodeNoneUptoSaid : Prop := nodeNoneUptoRow.holds Tryz.pinned (OpenSpec.upto nodeNoneSpec)

/-- 'curfewlaw25.NodeTeam', WHERE WHAT IT READS IS OF BULK AT MOST 1048576: true; the input reads as it did. -/
def nodeTeamUptoRow : OpenClaim := { program := "ytphlcbbdpmkipaagreat", sum := "29310eeeca047461cbd0ad39c921f467110dbdab91a1adb2cefa37203916e657", func := "curfew/curfewlaw25.NodeTeam", spec := "nodeTeam", inPlace := ["internal/bytealg.IndexByteString", "internal/bytealg.IndexString"], unfollowed := true, recurses := true, named := ["internal/bytealg.MaxLen"], apart := false, narrowed := true }
def NodeTeamUptoSaid : Prop := nodeTeamUptoRow.holds Tryz.pinned (OpenSpec.upto nodeTeamSpec)

end Rows
end Go.Proofs.YtphlcbbdpmkipaaGreat
