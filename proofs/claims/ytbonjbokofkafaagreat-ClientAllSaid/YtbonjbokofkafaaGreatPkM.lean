/- Lemmas of the proof: PkM. -/
import Derived.Test.YtbonjbokofkafaaGreatPkK
/- Runs of a process, by a check; the same messages. -/
namespace Go.Proofs.YtbonjbokofkafaaGreat
open Go.RowKit
set_option linter.unusedVariables false
/-! the same messages -/
end Go.Proofs.YtbonjbokofkafaaGreat
