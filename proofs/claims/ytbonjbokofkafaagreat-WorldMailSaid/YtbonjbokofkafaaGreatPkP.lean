/- Lemmas of the proof: PkP. -/
import Derived.Test.YtbonjbokofkafaaGreatPkM
namespace Go.Proofs.YtbonjbokofkafaaGreat
set_option linter.unusedVariables false
set_option maxRecDepth 100000
set_option maxHeartbeats 64000000
section
open Go.RowKit
theorem nTick (w:World):Calls Tryz.prog 23 #[.pointer none] w fun r w'=>r=.returned (.slice none 0 0)∧w=w':=by
 go_enter Tryz.func23,Tryz.ntmps23
 go_wp2
 go_ret
 exact⟨rfl,rfl⟩
theorem nHear (v:Value) (w:World):Calls Tryz.prog 68 #[.pointer none,v] w fun r w'=>r=.returned (.slice none 0 0)∧w=w':=by
 go_enter Tryz.func68,Tryz.ntmps68
 go_wp2
 go_ret
 exact⟨rfl,rfl⟩
end
end Go.Proofs.YtbonjbokofkafaaGreat
