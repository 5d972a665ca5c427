/-
  No cell of these rows narrows 'for every input' (looked for: loops, veiled, ifaces, maps, wideKeys, modest, calm, conditions, laid).
  DERIVED. THE GIVEN ROWS OF THIS SEAT. 8 by the template 'for every input the law returns true; each argument reads behind the call as it read before'; 0 by the template 'total and deterministic' (their statements: YtnkiifodcmfmiaaTotals.lean).
  GIVEN WITH THE SEED: the statements are not yours to turn. If you find one false, say at which input.
  Laid BY PROGRAM, IN A SANDBOX (cutbox-rows.mjs): the forced cells as the released guide's own fill.sh prints them over the translation 9dec9a72543165e0… (all of the seat's roots in one cut). By AI agents, Wed Nov 11 2026. No macro, syntax, notation, axiom, sorry.
-/
import Derived.Test.YtnkiifodcmfmiaaChecked
import GoSem.Claim
import GoSem.ClaimJoined
import GoSem.ClaimMapViews
import Derived.JoinedTies
import Derived.KernelRfl
namespace Go.Proofs.Ytnkiifodcmfmiaa
/- THE CELL 'sum', in the pinned program and in every row, IS THE sha256 OF THE DUMP (.gsa) THAT YtnkiifodcmfmiaaProg.lean LOADS. Nothing in Lean hashes anything: it is a label: what it is worth is what the hold of that sum in a sandbox is worth. -/
noncomputable def Try.pinned : Pinned := { name := "ytnkiifodcmfmiaa", sum := "9dec9a72543165e0835f0d6d422fa35a25601d01b020a56009dd01c539faaecd", checked := Try.checked }
namespace Rows
def none {H : Type} : Left H := { results := [], args := [] }

/-- 'curfewlaw13.LogAll': WHATEVER THE INPUT: true; the input reads as it did. -/
def logAllSpec : ChangeSpec := { name := "logAll", fn := fun _ => fun
  | [d1, d2] => { results := [.lit (.bool true)], args := [d1, d2] }
  | _ => none }
def logAllRow : OpenClaim := { program := "ytnkiifodcmfmiaa", sum := "9dec9a72543165e0835f0d6d422fa35a25601d01b020a56009dd01c539faaecd", func := "curfew/curfewlaw13.LogAll", spec := "logAll", unfollowed := true, recurses := true, apart := false }
def LogAllSaid : Prop := logAllRow.holds Try.pinned (OpenSpec.ofChange logAllSpec)

/-- ITS FALSE NEIGHBOUR: 'it returns false'. Refute it at one input. -/
def logAllWrong : ChangeSpec := { name := "logAll", fn := fun _ => fun
  | [d1, d2] => { results := [.lit (.bool false)], args := [d1, d2] }
  | _ => none }
def LogAllWrongFalsely : Prop := logAllRow.holds Try.pinned (OpenSpec.ofChange logAllWrong)

/-- 'curfewlaw13.LogPut': WHATEVER THE INPUT: true; the input reads as it did. -/
def logPutSpec : ChangeSpec := { name := "logPut", fn := fun _ => fun
  | [d1, d2, d3] => { results := [.lit (.bool true)], args := [d1, d2, d3] }
  | _ => none }
def logPutRow : OpenClaim := { program := "ytnkiifodcmfmiaa", sum := "9dec9a72543165e0835f0d6d422fa35a25601d01b020a56009dd01c539faaecd", func := "curfew/curfewlaw13.LogPut", spec := "logPut", unfollowed := true, recurses := true, apart := false }
def LogPutSaid : Prop := logPutRow.holds Try.pinned (OpenSpec.ofChange logPutSpec)

/-- ITS FALSE NEIGHBOUR: 'it returns false'. Refute it at one input. -/
def logPutWrong : ChangeSpec := { name := "logPut", fn := fun _ => fun
  | [d1, d2, d3] => { results := [.lit (.bool false)], args := [d1, d2, d3] }
  | _ => none }
def LogPutWrongFalsely : Prop := logPutRow.holds Try.pinned (OpenSpec.ofChange logPutWrong)

/-- 'curfewlaw13.LogFront': WHATEVER THE INPUT: true; the input reads as it did. -/
def logFrontSpec : ChangeSpec := { name := "logFront", fn := fun _ => fun
  | [d1, d2, d3] => { results := [.lit (.bool true)], args := [d1, d2, d3] }
  | _ => none }
def logFrontRow : OpenClaim := { program := "ytnkiifodcmfmiaa", sum := "9dec9a72543165e0835f0d6d422fa35a25601d01b020a56009dd01c539faaecd", func := "curfew/curfewlaw13.LogFront", spec := "logFront", unfollowed := true, recurses := true, apart := false }
def LogFrontSaid : Prop := logFrontRow.holds Try.pinned (OpenSpec.ofChange logFrontSpec)

/-- ITS FALSE NEIGHBOUR: 'it returns false'. Refute it at one input. -/
def logFrontWrong : ChangeSpec := { name := "logFront", fn := fun _ => fun
  | [d1, d2, d3] => { results := [.lit (.bool false)], args := [d1, d2, d3] }
  | _ => none }
def LogFrontWrongFalsely : Prop := logFrontRow.holds Try.pinned (OpenSpec.ofChange logFrontWrong)

/-- 'curfewlaw13.LogFull': WHATEVER THE INPUT: true; the input reads as it did. -/
def logFullSpec : ChangeSpec := { name := "logFull", fn := fun _ => fun
  | [d] => { results := [.lit (.bool true)], args := [d] }
  | _ => none }
def logFullRow : OpenClaim := { program := "ytnkiifodcmfmiaa", sum := "9dec9a72543165e0835f0d6d422fa35a25601d01b020a56009dd01c539faaecd", func := "curfew/curfewlaw13.LogFull", spec := "logFull", unfollowed := true, recurses := true, apart := false }
def LogFullSaid : Prop := logFullRow.holds Try.pinned (OpenSpec.ofChange logFullSpec)

/-- ITS FALSE NEIGHBOUR: 'it returns false'. Refute it at one input. -/
def logFullWrong : ChangeSpec := { name := "logFull", fn := fun _ => fun
  | [d] => { results := [.lit (.bool false)], args := [d] }
  | _ => none }
def LogFullWrongFalsely : Prop := logFullRow.holds Try.pinned (OpenSpec.ofChange logFullWrong)

/-- 'curfewlaw13.LogNone': WHATEVER THE INPUT: true; the input reads as it did. -/
def logNoneSpec : ChangeSpec := { name := "logNone", fn := fun _ => fun
  | [] => { results := [.lit (.bool true)], args := [] }
  | _ => none }
def logNoneRow : OpenClaim := { program := "ytnkiifodcmfmiaa", sum := "9dec9a72543165e0835f0d6d422fa35a25601d01b020a56009dd01c539faaecd", func := "curfew/curfewlaw13.LogNone", spec := "logNone", unfollowed := true, recurses := true, apart := false }
def LogNoneSaid : Prop := logNoneRow.holds Try.pinned (OpenSpec.ofChange logNoneSpec)

/-- ITS FALSE NEIGHBOUR: 'it returns false'. Refute it at one input. -/
def logNoneWrong : ChangeSpec := { name := "logNone", fn := fun _ => fun
  | [] => { results := [.lit (.bool false)], args := [] }
  | _ => none }
def LogNoneWrongFalsely : Prop := logNoneRow.holds Try.pinned (OpenSpec.ofChange logNoneWrong)

/-- 'curfewlaw13.LogOwn': WHATEVER THE INPUT: true; the input reads as it did. -/
def logOwnSpec : ChangeSpec := { name := "logOwn", fn := fun _ => fun
  | [d] => { results := [.lit (.bool true)], args := [d] }
  | _ => none }
def logOwnRow : OpenClaim := { program := "ytnkiifodcmfmiaa", sum := "9dec9a72543165e0835f0d6d422fa35a25601d01b020a56009dd01c539faaecd", func := "curfew/curfewlaw13.LogOwn", spec := "logOwn", unfollowed := true, recurses := true, apart := false }
def LogOwnSaid : Prop := logOwnRow.holds Try.pinned (OpenSpec.ofChange logOwnSpec)

/-- ITS FALSE NEIGHBOUR: 'it returns false'. Refute it at one input. -/
def logOwnWrong : ChangeSpec := { name := "logOwn", fn := fun _ => fun
  | [d] => { results := [.lit (.bool false)], args := [d] }
  | _ => none }
def LogOwnWrongFalsely : Prop := logOwnRow.holds Try.pinned (OpenSpec.ofChange logOwnWrong)

/-- 'curfewlaw13.LogOnce': WHATEVER THE INPUT: true; the input reads as it did. -/
def logOnceSpec : ChangeSpec := { name := "logOnce", fn := fun _ => fun
  | [d] => { results := [.lit (.bool true)], args := [d] }
  | _ => none }
def logOnceRow : OpenClaim := { program := "ytnkiifodcmfmiaa", sum := "9dec9a72543165e0835f0d6d422fa35a25601d01b020a56009dd01c539faaecd", func := "curfew/curfewlaw13.LogOnce", spec := "logOnce", unfollowed := true, recurses := true, apart := false }
def LogOnceSaid : Prop := logOnceRow.holds Try.pinned (OpenSpec.ofChange logOnceSpec)

/-- ITS FALSE NEIGHBOUR: 'it returns false'. Refute it at one input. -/
def logOnceWrong : ChangeSpec := { name := "logOnce", fn := fun _ => fun
  | [d] => { results := [.lit (.bool false)], args := [d] }
  | _ => none }
def LogOnceWrongFalsely : Prop := logOnceRow.holds Try.pinned (OpenSpec.ofChange logOnceWrong)

/-- 'curfewlaw13.LogTwo': WHATEVER THE INPUT: true; the input reads as it did. -/
def logTwoSpec : ChangeSpec := { name := "logTwo", fn := fun _ => fun
  | [d1, d2] => { results := [.lit (.bool true)], args := [d1, d2] }
  | _ => none }
def logTwoRow : OpenClaim := { program := "ytnkiifodcmfmiaa", sum := "9dec9a72543165e0835f0d6d422fa35a25601d01b020a56009dd01c539faaecd", func := "curfew/curfewlaw13.LogTwo", spec := "logTwo", unfollowed := true, recurses := true, apart := false }
def LogTwoSaid : Prop := logTwoRow.holds Try.pinned (OpenSpec.ofChange logTwoSpec)

/-- ITS FALSE NEIGHBOUR: 'it returns false'. Refute it at one input. -/
def logTwoWrong : ChangeSpec := { name := "logTwo", fn := fun _ => fun
  | [d1, d2] => { results := [.lit (.bool false)], args := [d1, d2] }
  | _ => none }
def LogTwoWrongFalsely : Prop := logTwoRow.holds Try.pinned (OpenSpec.ofChange logTwoWrong)

/- THE SECOND FORM. 'bulk': how many values and letters a reading holds, each counted each time it is reached (what is shared counts as often as it is met; a slice's spare places count too). A statement '..UptoSaid' is the law's where the arguments, and the package variables that the reading takes, are together of bulk at most 1048576: NARROWER than '..Said'. Prove '..Said' where nothing that the law and all that it calls make is longer than what came in: it says more and counts as full. Else prove '..UptoSaid'. A law counts once. -/
mutual
def uptoBulk {H : Type} : DataW H → Nat
  | .lit (.string bytes) => bytes.length + 1
  | .lit _ => 1
  | .nil => 1
  | .ptr d => uptoBulk d + 1
  | .slice elems spare => uptoBulkAll elems + uptoBulkAll spare + 1
  | .agg parts => uptoBulkAll parts + 1
  | .iface _ d => uptoBulk d + 1
  | .map entries => uptoBulkEntries entries + 1
  | .held _ => 1
def uptoBulkAll {H : Type} : List (DataW H) → Nat
  | [] => 0
  | d :: r => uptoBulk d + uptoBulkAll r
def uptoBulkEntries {H : Type} : List (Lit × DataW H) → Nat
  | [] => 0
  | x :: r => uptoBulkEntry x + uptoBulkEntries r
def uptoBulkEntry {H : Type} : Lit × DataW H → Nat
  | (.string bytes, d) => bytes.length + uptoBulk d + 1
  | (_, d) => uptoBulk d + 1
 end
def uptoSmall : (H : Type) → List (DataW H) → Bool := fun _ ds => decide (uptoBulkAll ds ≤ 1048576)
def OpenSpec.upto (s : _root_.Go.ChangeSpec) : _root_.Go.OpenSpec := { _root_.Go.OpenSpec.ofChange s with cond := some uptoSmall }

/-- 'curfewlaw13.LogAll', WHERE WHAT IT READS IS OF BULK AT MOST 1048576: true; the input reads as it did. -/
def logAllUptoRow : OpenClaim := { program := "ytnkiifodcmfmiaa", sum := "9dec9a72543165e0835f0d6d422fa35a25601d01b020a56009dd01c539faaecd", func := "curfew/curfewlaw13.LogAll", spec := "logAll", unfollowed := true, recurses := true, apart := false, narrowed := true }
def LogAllUptoSaid : Prop := logAllUptoRow.holds Try.pinned (OpenSpec.upto logAllSpec)

/-- 'curfewlaw13.LogPut', WHERE WHAT IT READS IS OF BULK AT MOST 1048576: true; the input reads as it did. -/
def logPutUptoRow : OpenClaim := { program := "ytnkiifodcmfmiaa", sum := "9dec9a72543165e0835f0d6d422fa35a25601d01b020a56009dd01c539faaecd", func := "curfew/curfewlaw13.LogPut", spec := "logPut", unfollowed := true, recurses := true, apart := false, narrowed := true }
def LogPutUptoSaid : Prop := logPutUptoRow.holds Try.pinned (OpenSpec.upto logPutSpec)

/-- 'curfewlaw13.LogFront', WHERE WHAT IT READS IS OF BULK AT MOST 1048576: true; the input reads as it did. -/
def logFrontUptoRow : OpenClaim := { program := "ytnkiifodcmfmiaa", sum := "9dec9a72543165e0835f0d6d422fa35a25601d01b020a56009dd01c539faaecd", func := "curfew/curfewlaw13.LogFront", spec := "logFront", unfollowed := true, recurses := true, apart := false, narrowed := true }
def LogFrontUptoSaid : Prop := logFrontUptoRow.holds Try.pinned (OpenSpec.upto logFrontSpec)

/-- 'curfewlaw13.LogFull', WHERE WHAT IT READS IS OF BULK AT MOST 1048576: true; the input reads as it did. -/
def logFullUptoRow : OpenClaim := { program := "ytnkiifodcmfmiaa", sum := "9dec9a72543165e0835f0d6d422fa35a25601d01b020a56009dd01c539faaecd", func := "curfew/curfewlaw13.LogFull", spec := "logFull", unfollowed := true, recurses := true, apart := false, narrowed := true }
def LogFullUptoSaid : Prop := logFullUptoRow.holds Try.pinned (OpenSpec.upto logFullSpec)

/-- 'curfewlaw13.LogNone', WHERE WHAT IT READS IS OF BULK AT MOST 1048576: true; the input reads as it did. -/
def logNoneUptoRow : OpenClaim := { program := "ytnkiifodcmfmiaa", sum := "9dec9a72543165e0835f0d6d422fa35a25601d01b020a56009dd01c539faaecd", func := "curfew/curfewlaw13.LogNone", spec := "logNone", unfollowed := true, recurses := true, apart := false, narrowed := true }
def LogNoneUptoSaid : Prop := logNoneUptoRow.holds Try.pinned (OpenSpec.upto logNoneSpec)

/-- 'curfewlaw13.LogOwn', WHERE WHAT IT READS IS OF BULK AT MOST 1048576: true; the input reads as it did. -/
def logOwnUptoRow : OpenClaim := { program := "ytnkiifodcmfmiaa", sum := "9dec9a72543165e0835f0d6d422fa35a25601d01b020a56009dd01c539faaecd", func := "curfew/curfewlaw13.LogOwn", spec := "logOwn", unfollowed := true, recurses := true, apart := false, narrowed := true }
def LogOwnUptoSaid : Prop := logOwnUptoRow.holds Try.pinned (OpenSpec.upto logOwnSpec)

/-- 'curfewlaw13.LogOnce', WHERE WHAT IT READS IS OF BULK AT MOST 1048576: true; the input reads as it did. -/
def logOnceUptoRow : OpenClaim := { program := "ytnkiifodcmfmiaa", sum := "9dec9a72543165e0835f0d6d422fa35a25601d01b020a56009dd01c539faaecd", func := "curfew/curfewlaw13.LogOnce", spec := "logOnce", unfollowed := true, recurses := true, apart := false, narrowed := true }
def LogOnceUptoSaid : Prop := logOnceUptoRow.holds Try.pinned (OpenSpec.upto logOnceSpec)

/-- 'curfewlaw13.LogTwo', WHERE WHAT IT READS IS OF BULK AT MOST 1048576: true; the input reads as it did. -/
def logTwoUptoRow : OpenClaim := { program := "ytnkiifodcmfmiaa", sum := "9dec9a72543165e0835f0d6d422fa35a25601d01b020a56009dd01c539faaecd", func := "curfew/curfewlaw13.LogTwo", spec := "logTwo", unfollowed := true, recurses := true, apart := false, narrowed := true }
def LogTwoUptoSaid : Prop := logTwoUptoRow.holds Try.pinned (OpenSpec.upto logTwoSpec)

end Rows
end Go.Proofs.Ytnkiifodcmfmiaa
