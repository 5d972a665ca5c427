/- The law's own opening (closed), and 'not too many'. -/
import Derived.Test.YtimffflhfaiakaaTeamB
namespace Go.Proofs.Ytimffflhfaiakaa
open Go.RowKit
set_option linter.unusedVariables false

end Go.Proofs.Ytimffflhfaiakaa
