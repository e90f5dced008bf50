/- Blocks, functions, modules: the same or not (contracts). -/
import Derived.Test.YtanlkfeogoganaaIntW
namespace Go.Proofs.Ytanlkfeogoganaa
open Go.Lir
set_option maxHeartbeats 1000000
attribute [local irreducible] LC.wp opsWp thenQ blockQ retQ resWp LO.wp callPost Calls
set_option linter.unusedSimpArgs false
set_option linter.unusedVariables false
end Go.Proofs.Ytanlkfeogoganaa
