/-
  No cell of these rows narrows 'for every input' (looked for: loops, veiled, ifaces, maps, wideKeys, modest, calm, conditions, laid).
  DERIVED. THE GIVEN ROWS OF THIS SEAT. 12 by the template 'for every input the law returns true; each argument reads behind the call as it read before'; 0 by the template 'total and deterministic' (their statements: YtbonjbokofkafaaGreatTotals.lean).
  GIVEN WITH THE SEED: the statements are not yours to turn. If you find one false, say at which input.
  Laid BY PROGRAM, IN A SANDBOX (cutbox-rows.mjs): the forced cells as the released guide's own fill.sh prints them over the translation 664a9ec24e6909e0… (all of the seat's roots in one cut). By AI agents, Wed Nov 11 2026. No macro, syntax, notation, axiom, sorry.
-/
import Derived.Test.YtbonjbokofkafaaGreatChecked
import GoSem.Claim
import GoSem.ClaimJoined
import GoSem.ClaimMapViews
import Derived.JoinedTies
import Derived.KernelRfl
namespace Go.Proofs.YtbonjbokofkafaaGreat
/- THE CELL 'sum', in the pinned program and in every row, IS THE sha256 OF THE DUMP (.gsa) THAT YtbonjbokofkafaaGreatProg.lean LOADS. Nothing in Lean hashes anything: it is a label: what it is worth is what the hold of that sum in a sandbox is worth. -/
noncomputable def Tryz.pinned : Pinned := { name := "ytbonjbokofkafaagreat", sum := "664a9ec24e6909e04a756873d55f8c546e9d8e9159a0e307a52d538bd103a862", checked := Tryz.checked }
namespace Rows
def none {H : Type} : Left H := { results := [], args := [] }

/-- 'curfewtop.TopStarts': WHATEVER THE INPUT: true; the input reads as it did. -/
def topStartsSpec : ChangeSpec := { name := "topStarts", fn := fun _ => fun
  | [d] => { results := [.lit (.bool true)], args := [d] }
  | _ => none }
def topStartsRow : OpenClaim := { program := "ytbonjbokofkafaagreat", sum := "664a9ec24e6909e04a756873d55f8c546e9d8e9159a0e307a52d538bd103a862", func := "curfew/curfewtop.TopStarts", spec := "topStarts", inPlace := ["internal/bytealg.IndexByteString", "internal/bytealg.IndexString", "sync/atomic.AddInt64"], unfollowed := true, recurses := true, named := ["internal/bytealg.MaxLen"], apart := false }
def TopStartsSaid : Prop := topStartsRow.holds Tryz.pinned (OpenSpec.ofChange topStartsSpec)

/-- ITS FALSE NEIGHBOUR: 'it returns false'. Refute it at one input. -/
def topStartsWrong : ChangeSpec := { name := "topStarts", fn := fun _ => fun
  | [d] => { results := [.lit (.bool false)], args := [d] }
  | _ => none }
def TopStartsWrongFalsely : Prop := topStartsRow.holds Tryz.pinned (OpenSpec.ofChange topStartsWrong)

/-- 'curfewlaw26.ClientAll': WHATEVER THE INPUT: true; the input reads as it did. -/
def clientAllSpec : ChangeSpec := { name := "clientAll", fn := fun _ => fun
  | [d] => { results := [.lit (.bool true)], args := [d] }
  | _ => none }
def clientAllRow : OpenClaim := { program := "ytbonjbokofkafaagreat", sum := "664a9ec24e6909e04a756873d55f8c546e9d8e9159a0e307a52d538bd103a862", func := "curfew/curfewlaw26.ClientAll", spec := "clientAll", inPlace := ["internal/bytealg.IndexByteString", "internal/bytealg.IndexString", "sync/atomic.AddInt64", "sync/atomic.LoadInt64"], unfollowed := true, recurses := true, named := ["internal/bytealg.MaxLen"], apart := false }
def ClientAllSaid : Prop := clientAllRow.holds Tryz.pinned (OpenSpec.ofChange clientAllSpec)

/-- ITS FALSE NEIGHBOUR: 'it returns false'. Refute it at one input. -/
def clientAllWrong : ChangeSpec := { name := "clientAll", fn := fun _ => fun
  | [d] => { results := [.lit (.bool false)], args := [d] }
  | _ => none }
def ClientAllWrongFalsely : Prop := clientAllRow.holds Tryz.pinned (OpenSpec.ofChange clientAllWrong)

/-- 'curfewlaw26.ClientNone': WHATEVER THE INPUT: true; the input reads as it did. -/
def clientNoneSpec : ChangeSpec := { name := "clientNone", fn := fun _ => fun
  | [] => { results := [.lit (.bool true)], args := [] }
  | _ => none }
def clientNoneRow : OpenClaim := { program := "ytbonjbokofkafaagreat", sum := "664a9ec24e6909e04a756873d55f8c546e9d8e9159a0e307a52d538bd103a862", func := "curfew/curfewlaw26.ClientNone", spec := "clientNone", inPlace := ["sync/atomic.AddInt64", "internal/bytealg.IndexByteString", "internal/bytealg.IndexString", "sync/atomic.LoadInt64"], unfollowed := true, recurses := true, named := ["internal/bytealg.MaxLen"], apart := false }
def ClientNoneSaid : Prop := clientNoneRow.holds Tryz.pinned (OpenSpec.ofChange clientNoneSpec)

/-- ITS FALSE NEIGHBOUR: 'it returns false'. Refute it at one input. -/
def clientNoneWrong : ChangeSpec := { name := "clientNone", fn := fun _ => fun
  | [] => { results := [.lit (.bool false)], args := [] }
  | _ => none }
def ClientNoneWrongFalsely : Prop := clientNoneRow.holds Tryz.pinned (OpenSpec.ofChange clientNoneWrong)

/-- 'curfewlaw26.ClientNoView': WHATEVER THE INPUT: true; the input reads as it did. -/
def clientNoViewSpec : ChangeSpec := { name := "clientNoView", fn := fun _ => fun
  | [d1, d2] => { results := [.lit (.bool true)], args := [d1, d2] }
  | _ => none }
def clientNoViewRow : OpenClaim := { program := "ytbonjbokofkafaagreat", sum := "664a9ec24e6909e04a756873d55f8c546e9d8e9159a0e307a52d538bd103a862", func := "curfew/curfewlaw26.ClientNoView", spec := "clientNoView", inPlace := ["internal/bytealg.IndexByteString", "internal/bytealg.IndexString", "sync/atomic.AddInt64", "sync/atomic.LoadInt64"], unfollowed := true, recurses := true, named := ["internal/bytealg.MaxLen"], apart := false }
def ClientNoViewSaid : Prop := clientNoViewRow.holds Tryz.pinned (OpenSpec.ofChange clientNoViewSpec)

/-- ITS FALSE NEIGHBOUR: 'it returns false'. Refute it at one input. -/
def clientNoViewWrong : ChangeSpec := { name := "clientNoView", fn := fun _ => fun
  | [d1, d2] => { results := [.lit (.bool false)], args := [d1, d2] }
  | _ => none }
def ClientNoViewWrongFalsely : Prop := clientNoViewRow.holds Tryz.pinned (OpenSpec.ofChange clientNoViewWrong)

/-- 'curfewlaw26.ClientBusy': WHATEVER THE INPUT: true; the input reads as it did. -/
def clientBusySpec : ChangeSpec := { name := "clientBusy", fn := fun _ => fun
  | [d] => { results := [.lit (.bool true)], args := [d] }
  | _ => none }
def clientBusyRow : OpenClaim := { program := "ytbonjbokofkafaagreat", sum := "664a9ec24e6909e04a756873d55f8c546e9d8e9159a0e307a52d538bd103a862", func := "curfew/curfewlaw26.ClientBusy", spec := "clientBusy", inPlace := ["internal/bytealg.IndexByteString", "internal/bytealg.IndexString", "sync/atomic.AddInt64", "sync/atomic.LoadInt64"], unfollowed := true, recurses := true, named := ["internal/bytealg.MaxLen"], apart := false }
def ClientBusySaid : Prop := clientBusyRow.holds Tryz.pinned (OpenSpec.ofChange clientBusySpec)

/-- ITS FALSE NEIGHBOUR: 'it returns false'. Refute it at one input. -/
def clientBusyWrong : ChangeSpec := { name := "clientBusy", fn := fun _ => fun
  | [d] => { results := [.lit (.bool false)], args := [d] }
  | _ => none }
def ClientBusyWrongFalsely : Prop := clientBusyRow.holds Tryz.pinned (OpenSpec.ofChange clientBusyWrong)

/-- 'curfewlaw26.ClientTwo': WHATEVER THE INPUT: true; the input reads as it did. -/
def clientTwoSpec : ChangeSpec := { name := "clientTwo", fn := fun _ => fun
  | [d] => { results := [.lit (.bool true)], args := [d] }
  | _ => none }
def clientTwoRow : OpenClaim := { program := "ytbonjbokofkafaagreat", sum := "664a9ec24e6909e04a756873d55f8c546e9d8e9159a0e307a52d538bd103a862", func := "curfew/curfewlaw26.ClientTwo", spec := "clientTwo", inPlace := ["internal/bytealg.IndexByteString", "internal/bytealg.IndexString", "sync/atomic.AddInt64", "sync/atomic.LoadInt64"], unfollowed := true, recurses := true, named := ["internal/bytealg.MaxLen"], apart := false }
def ClientTwoSaid : Prop := clientTwoRow.holds Tryz.pinned (OpenSpec.ofChange clientTwoSpec)

/-- ITS FALSE NEIGHBOUR: 'it returns false'. Refute it at one input. -/
def clientTwoWrong : ChangeSpec := { name := "clientTwo", fn := fun _ => fun
  | [d] => { results := [.lit (.bool false)], args := [d] }
  | _ => none }
def ClientTwoWrongFalsely : Prop := clientTwoRow.holds Tryz.pinned (OpenSpec.ofChange clientTwoWrong)

/-- 'curfewlaw27.WorldErrors': WHATEVER THE INPUT: true; the input reads as it did. -/
def worldErrorsSpec : ChangeSpec := { name := "worldErrors", fn := fun _ => fun
  | [d1, d2, d3] => { results := [.lit (.bool true)], args := [d1, d2, d3] }
  | _ => none }
def worldErrorsRow : OpenClaim := { program := "ytbonjbokofkafaagreat", sum := "664a9ec24e6909e04a756873d55f8c546e9d8e9159a0e307a52d538bd103a862", func := "curfew/curfewlaw27.WorldErrors", spec := "worldErrors", inPlace := ["internal/bytealg.IndexByteString", "internal/bytealg.IndexString", "sync/atomic.AddInt64"], unfollowed := true, recurses := true, named := ["internal/bytealg.MaxLen"], apart := false }
def WorldErrorsSaid : Prop := worldErrorsRow.holds Tryz.pinned (OpenSpec.ofChange worldErrorsSpec)

/-- ITS FALSE NEIGHBOUR: 'it returns false'. Refute it at one input. -/
def worldErrorsWrong : ChangeSpec := { name := "worldErrors", fn := fun _ => fun
  | [d1, d2, d3] => { results := [.lit (.bool false)], args := [d1, d2, d3] }
  | _ => none }
def WorldErrorsWrongFalsely : Prop := worldErrorsRow.holds Tryz.pinned (OpenSpec.ofChange worldErrorsWrong)

/-- 'curfewlaw27.WorldWell': WHATEVER THE INPUT: true; the input reads as it did. -/
def worldWellSpec : ChangeSpec := { name := "worldWell", fn := fun _ => fun
  | [d1, d2, d3] => { results := [.lit (.bool true)], args := [d1, d2, d3] }
  | _ => none }
def worldWellRow : OpenClaim := { program := "ytbonjbokofkafaagreat", sum := "664a9ec24e6909e04a756873d55f8c546e9d8e9159a0e307a52d538bd103a862", func := "curfew/curfewlaw27.WorldWell", spec := "worldWell", inPlace := ["internal/bytealg.IndexByteString", "internal/bytealg.IndexString", "sync/atomic.AddInt64"], unfollowed := true, recurses := true, named := ["internal/bytealg.MaxLen"], apart := false }
def WorldWellSaid : Prop := worldWellRow.holds Tryz.pinned (OpenSpec.ofChange worldWellSpec)

/-- ITS FALSE NEIGHBOUR: 'it returns false'. Refute it at one input. -/
def worldWellWrong : ChangeSpec := { name := "worldWell", fn := fun _ => fun
  | [d1, d2, d3] => { results := [.lit (.bool false)], args := [d1, d2, d3] }
  | _ => none }
def WorldWellWrongFalsely : Prop := worldWellRow.holds Tryz.pinned (OpenSpec.ofChange worldWellWrong)

/-- 'curfewlaw27.WorldMail': WHATEVER THE INPUT: true; the input reads as it did. -/
def worldMailSpec : ChangeSpec := { name := "worldMail", fn := fun _ => fun
  | [d1, d2] => { results := [.lit (.bool true)], args := [d1, d2] }
  | _ => none }
def worldMailRow : OpenClaim := { program := "ytbonjbokofkafaagreat", sum := "664a9ec24e6909e04a756873d55f8c546e9d8e9159a0e307a52d538bd103a862", func := "curfew/curfewlaw27.WorldMail", spec := "worldMail", inPlace := ["internal/bytealg.IndexByteString", "internal/bytealg.IndexString", "sync/atomic.AddInt64"], unfollowed := true, recurses := true, named := ["internal/bytealg.MaxLen"], apart := false }
def WorldMailSaid : Prop := worldMailRow.holds Tryz.pinned (OpenSpec.ofChange worldMailSpec)

/-- ITS FALSE NEIGHBOUR: 'it returns false'. Refute it at one input. -/
def worldMailWrong : ChangeSpec := { name := "worldMail", fn := fun _ => fun
  | [d1, d2] => { results := [.lit (.bool false)], args := [d1, d2] }
  | _ => none }
def WorldMailWrongFalsely : Prop := worldMailRow.holds Tryz.pinned (OpenSpec.ofChange worldMailWrong)

/-- 'curfewtop.TopViews': WHATEVER THE INPUT: true; the input reads as it did. -/
def topViewsSpec : ChangeSpec := { name := "topViews", fn := fun _ => fun
  | [d1, d2] => { results := [.lit (.bool true)], args := [d1, d2] }
  | _ => none }
def topViewsRow : OpenClaim := { program := "ytbonjbokofkafaagreat", sum := "664a9ec24e6909e04a756873d55f8c546e9d8e9159a0e307a52d538bd103a862", func := "curfew/curfewtop.TopViews", spec := "topViews", inPlace := ["internal/bytealg.IndexByteString", "internal/bytealg.IndexString", "sync/atomic.AddInt64"], unfollowed := true, recurses := true, named := ["internal/bytealg.MaxLen"], apart := false }
def TopViewsSaid : Prop := topViewsRow.holds Tryz.pinned (OpenSpec.ofChange topViewsSpec)

/-- ITS FALSE NEIGHBOUR: 'it returns false'. Refute it at one input. -/
def topViewsWrong : ChangeSpec := { name := "topViews", fn := fun _ => fun
  | [d1, d2] => { results := [.lit (.bool false)], args := [d1, d2] }
  | _ => none }
def TopViewsWrongFalsely : Prop := topViewsRow.holds Tryz.pinned (OpenSpec.ofChange topViewsWrong)

/-- 'curfewtop.TopLostAll': WHATEVER THE INPUT: true; the input reads as it did. -/
def topLostAllSpec : ChangeSpec := { name := "topLostAll", fn := fun _ => fun
  | [d1, d2, d3] => { results := [.lit (.bool true)], args := [d1, d2, d3] }
  | _ => none }
def topLostAllRow : OpenClaim := { program := "ytbonjbokofkafaagreat", sum := "664a9ec24e6909e04a756873d55f8c546e9d8e9159a0e307a52d538bd103a862", func := "curfew/curfewtop.TopLostAll", spec := "topLostAll", inPlace := ["internal/bytealg.IndexByteString", "internal/bytealg.IndexString", "sync/atomic.AddInt64"], unfollowed := true, recurses := true, named := ["internal/bytealg.MaxLen"], apart := false }
def TopLostAllSaid : Prop := topLostAllRow.holds Tryz.pinned (OpenSpec.ofChange topLostAllSpec)

/-- ITS FALSE NEIGHBOUR: 'it returns false'. Refute it at one input. -/
def topLostAllWrong : ChangeSpec := { name := "topLostAll", fn := fun _ => fun
  | [d1, d2, d3] => { results := [.lit (.bool false)], args := [d1, d2, d3] }
  | _ => none }
def TopLostAllWrongFalsely : Prop := topLostAllRow.holds Tryz.pinned (OpenSpec.ofChange topLostAllWrong)

/-- 'curfewtop.TopStale': WHATEVER THE INPUT: true; the input reads as it did. -/
def topStaleSpec : ChangeSpec := { name := "topStale", fn := fun _ => fun
  | [d1, d2] => { results := [.lit (.bool true)], args := [d1, d2] }
  | _ => none }
def topStaleRow : OpenClaim := { program := "ytbonjbokofkafaagreat", sum := "664a9ec24e6909e04a756873d55f8c546e9d8e9159a0e307a52d538bd103a862", func := "curfew/curfewtop.TopStale", spec := "topStale", inPlace := ["internal/bytealg.IndexByteString", "internal/bytealg.IndexString", "sync/atomic.AddInt64"], unfollowed := true, recurses := true, named := ["internal/bytealg.MaxLen"], apart := false }
def TopStaleSaid : Prop := topStaleRow.holds Tryz.pinned (OpenSpec.ofChange topStaleSpec)

/-- ITS FALSE NEIGHBOUR: 'it returns false'. Refute it at one input. -/
def topStaleWrong : ChangeSpec := { name := "topStale", fn := fun _ => fun
  | [d1, d2] => { results := [.lit (.bool false)], args := [d1, d2] }
  | _ => none }
def TopStaleWrongFalsely : Prop := topStaleRow.holds Tryz.pinned (OpenSpec.ofChange topStaleWrong)

/- THE SECOND FORM. 'bulk': how many values and letters a reading holds, each counted each time it is reached (what is shared counts as often as it is met; a slice's spare places count too). A statement '..UptoSaid' is the law's where the arguments, and the package variables that the reading takes, are together of bulk at most 1048576: NARROWER than '..Said'. Prove '..Said' where nothing that the law and all that it calls make is longer than what came in: it says more and counts as full. Else prove '..UptoSaid'. A law counts once. -/
mutual
def uptoBulk {H : Type} : DataW H → Nat
  | .lit (.string bytes) => bytes.length + 1
  | .lit _ => 1
  | .nil => 1
  | .ptr d => uptoBulk d + 1
  | .slice elems spare => uptoBulkAll elems + uptoBulkAll spare + 1
  | .agg parts => uptoBulkAll parts + 1
  | .iface _ d => uptoBulk d + 1
  | .map entries => uptoBulkEntries entries + 1
  | .held _ => 1
def uptoBulkAll {H : Type} : List (DataW H) → Nat
  | [] => 0
  | d :: r => uptoBulk d + uptoBulkAll r
def uptoBulkEntries {H : Type} : List (Lit × DataW H) → Nat
  | [] => 0
  | x :: r => uptoBulkEntry x + uptoBulkEntries r
def uptoBulkEntry {H : Type} : Lit × DataW H → Nat
  | (.string bytes, d) => bytes.length + uptoBulk d + 1
  | (_, d) => uptoBulk d + 1
 end
def uptoSmall : (H : Type) → List (DataW H) → Bool := fun _ ds => decide (uptoBulkAll ds ≤ 1048576)
def OpenSpec.upto (s : _root_.Go.ChangeSpec) : _root_.Go.OpenSpec := { _root_.Go.OpenSpec.ofChange s with cond := some uptoSmall }

/-- 'curfewtop.TopStarts', WHERE WHAT IT READS IS OF BULK AT MOST 1048576: true; the input reads as it did. -/
def topStartsUptoRow : OpenClaim := { program := "ytbonjbokofkafaagreat", sum := "664a9ec24e6909e04a756873d55f8c546e9d8e9159a0e307a52d538bd103a862", func := "curfew/curfewtop.TopStarts", spec := "topStarts", inPlace := ["internal/bytealg.IndexByteString", "internal/bytealg.IndexString", "sync/atomic.AddInt64"], unfollowed := true, recurses := true, named := ["internal/bytealg.MaxLen"], apart := false, narrowed := true }
def TopStartsUptoSaid : Prop := topStartsUptoRow.holds Tryz.pinned (OpenSpec.upto topStartsSpec)

/-- 'curfewlaw26.ClientAll', WHERE WHAT IT READS IS OF BULK AT MOST 1048576: true; the input reads as it did. -/
def clientAllUptoRow : OpenClaim := { program := "ytbonjbokofkafaagreat", sum := "664a9ec24e6909e04a756873d55f8c546e9d8e9159a0e307a52d538bd103a862", func := "curfew/curfewlaw26.ClientAll", spec := "clientAll", inPlace := ["internal/bytealg.IndexByteString", "internal/bytealg.IndexString", "sync/atomic.AddInt64", "sync/atomic.LoadInt64"], unfollowed := true, recurses := true, named := ["internal/bytealg.MaxLen"], apart := false, narrowed := true }
def ClientAllUptoSaid : Prop := clientAllUptoRow.holds Tryz.pinned (OpenSpec.upto clientAllSpec)

/-- 'curfewlaw26.ClientNone', WHERE WHAT IT READS IS OF BULK AT MOST 1048576: true; the input reads as it did. -/
def clientNoneUptoRow : OpenClaim := { program := "ytbonjbokofkafaagreat", sum := "664a9ec24e6909e04a756873d55f8c546e9d8e9159a0e307a52d538bd103a862", func := "curfew/curfewlaw26.ClientNone", spec := "clientNone", inPlace := ["sync/atomic.AddInt64", "internal/bytealg.IndexByteString", "internal/bytealg.IndexString", "sync/atomic.LoadInt64"], unfollowed := true, recurses := true, named := ["internal/bytealg.MaxLen"], apart := false, narrowed := true }
def ClientNoneUptoSaid : Prop := clientNoneUptoRow.holds Tryz.pinned (OpenSpec.upto clientNoneSpec)

/-- 'curfewlaw26.ClientNoView', WHERE WHAT IT READS IS OF BULK AT MOST 1048576: true; the input reads as it did. -/
def clientNoViewUptoRow : OpenClaim := { program := "ytbonjbokofkafaagreat", sum := "664a9ec24e6909e04a756873d55f8c546e9d8e9159a0e307a52d538bd103a862", func := "curfew/curfewlaw26.ClientNoView", spec := "clientNoView", inPlace := ["internal/bytealg.IndexByteString", "internal/bytealg.IndexString", "sync/atomic.AddInt64", "sync/atomic.LoadInt64"], unfollowed := true, recurses := true, named := ["internal/bytealg.MaxLen"], apart := false, narrowed := true }
def ClientNoViewUptoSaid : Prop := clientNoViewUptoRow.holds Tryz.pinned (OpenSpec.upto clientNoViewSpec)

/-- 'curfewlaw26.ClientBusy', WHERE WHAT IT READS IS OF BULK AT MOST 1048576: true; the input reads as it did. -/
def clientBusyUptoRow : OpenClaim := { program := "ytbonjbokofkafaagreat", sum := "664a9ec24e6909e04a756873d55f8c546e9d8e9159a0e307a52d538bd103a862", func := "curfew/curfewlaw26.ClientBusy", spec := "clientBusy", inPlace := ["internal/bytealg.IndexByteString", "internal/bytealg.IndexString", "sync/atomic.AddInt64", "sync/atomic.LoadInt64"], unfollowed := true, recurses := true, named := ["internal/bytealg.MaxLen"], apart := false, narrowed := true }
def ClientBusyUptoSaid : Prop := clientBusyUptoRow.holds Tryz.pinned (OpenSpec.upto clientBusySpec)

/-- 'curfewlaw26.ClientTwo', WHERE WHAT IT READS IS OF BULK AT MOST 1048576: true; the input reads as it did. -/
def clientTwoUptoRow : OpenClaim := { program := "ytbonjbokofkafaagreat", sum := "664a9ec24e6909e04a756873d55f8c546e9d8e9159a0e307a52d538bd103a862", func := "curfew/curfewlaw26.ClientTwo", spec := "clientTwo", inPlace := ["internal/bytealg.IndexByteString", "internal/bytealg.IndexString", "sync/atomic.AddInt64", "sync/atomic.LoadInt64"], unfollowed := true, recurses := true, named := ["internal/bytealg.MaxLen"], apart := false, narrowed := true }
def ClientTwoUptoSaid : Prop := clientTwoUptoRow.holds Tryz.pinned (OpenSpec.upto clientTwoSpec)

/-- 'curfewlaw27.WorldErrors', WHERE WHAT IT READS IS OF BULK AT MOST 1048576: true; the input reads as it did. -/
def worldErrorsUptoRow : OpenClaim := { program := "ytbonjbokofkafaagreat", sum := "664a9ec24e6909e04a756873d55f8c546e9d8e9159a0e307a52d538bd103a862", func := "curfew/curfewlaw27.WorldErrors", spec := "worldErrors", inPlace := ["internal/bytealg.IndexByteString", "internal/bytealg.IndexString", "sync/atomic.AddInt64"], unfollowed := true, recurses := true, named := ["internal/bytealg.MaxLen"], apart := false, narrowed := true }
def WorldErrorsUptoSaid : Prop := worldErrorsUptoRow.holds Tryz.pinned (OpenSpec.upto worldErrorsSpec)

/-- 'curfewlaw27.WorldWell', WHERE WHAT IT READS IS OF BULK AT MOST 1048576: true; the input reads as it did. -/
def worldWellUptoRow : OpenClaim := { program := "ytbonjbokofkafaagreat", sum := "664a9ec24e6909e04a756873d55f8c546e9d8e9159a0e307a52d538bd103a862", func := "curfew/curfewlaw27.WorldWell", spec := "worldWell", inPlace := ["internal/bytealg.IndexByteString", "internal/bytealg.IndexString", "sync/atomic.AddInt64"], unfollowed := true, recurses := true, named := ["internal/bytealg.MaxLen"], apart := false, narrowed := true }
def WorldWellUptoSaid : Prop := worldWellUptoRow.holds Tryz.pinned (OpenSpec.upto worldWellSpec)

/-- 'curfewlaw27.WorldMail', WHERE WHAT IT READS IS OF BULK AT MOST 1048576: true; the input reads as it did. -/
def worldMailUptoRow : OpenClaim := { program := "ytbonjbokofkafaagreat", sum := "664a9ec24e6909e04a756873d55f8c546e9d8e9159a0e307a52d538bd103a862", func := "curfew/curfewlaw27.WorldMail", spec := "worldMail", inPlace := ["internal/bytealg.IndexByteString", "internal/bytealg.IndexString", "sync/atomic.AddInt64"], unfollowed := true, recurses := true, named := ["internal/bytealg.MaxLen"], apart := false, narrowed := true }
def WorldMailUptoSaid : Prop := worldMailUptoRow.holds Tryz.pinned (OpenSpec.upto worldMailSpec)

/-- 'curfewtop.TopViews', WHERE WHAT IT READS IS OF BULK AT MOST 1048576: true; the input reads as it did. -/
def topViewsUptoRow : OpenClaim := { program := "ytbonjbokofkafaagreat", sum := "664a9ec24e6909e04a756873d55f8c546e9d8e9159a0e307a52d538bd103a862", func := "curfew/curfewtop.TopViews", spec := "topViews", inPlace := ["internal/bytealg.IndexByteString", "internal/bytealg.IndexString", "sync/atomic.AddInt64"], unfollowed := true, recurses := true, named := ["internal/bytealg.MaxLen"], apart := false, narrowed := true }
def TopViewsUptoSaid : Prop := topViewsUptoRow.holds Tryz.pinned (OpenSpec.upto topViewsSpec)

/-- 'curfewtop.TopLostAll', WHERE WHAT IT READS IS OF BULK AT MOST 1048576: true; the input reads as it did. -/
def topLostAllUptoRow : OpenClaim := { program := "ytbonjbokofkafaagreat", sum := "664a9ec24e6909e04a756873d55f8c546e9d8e9159a0e307a52d538bd103a862", func := "curfew/curfewtop.TopLostAll", spec := "topLostAll", inPlace := ["internal/bytealg.IndexByteString", "internal/bytealg.IndexString", "sync/atomic.AddInt64"], unfollowed := true, recurses := true, named := ["internal/bytealg.MaxLen"], apart := false, narrowed := true }
def TopLostAllUptoSaid : Prop := topLostAllUptoRow.holds Tryz.pinned (OpenSpec.upto topLostAllSpec)

/-- 'curfewtop.TopStale', WHERE WHAT IT READS IS OF BULK AT MOST 1048576: true; the input reads as it did. -/
def topStaleUptoRow : OpenClaim := { program := "ytbonjbokofkafaagreat", sum := "664a9ec24e6909e04a756873d55f8c546e9d8e9159a0e307a52d538bd103a862", func := "curfew/curfewtop.TopStale", spec := "topStale", inPlace := ["internal/bytealg.IndexByteString", "internal/bytealg.IndexString", "sync/atomic.AddInt64"], unfollowed := true, recurses := true, named := ["internal/bytealg.MaxLen"], apart := false, narrowed := true }
def TopStaleUptoSaid : Prop := topStaleUptoRow.holds Tryz.pinned (OpenSpec.upto topStaleSpec)

end Rows
end Go.Proofs.YtbonjbokofkafaaGreat
