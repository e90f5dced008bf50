/- Types: the same, in memory of their own, renamed (contracts). -/
import Derived.Test.YtanlkfeogoganaaDoorTyW
import Derived.Test.YtanlkfeogoganaaDoorElT
namespace Go.Proofs.YtanlkfeogoganaaDoor
open Go.Lir
attribute [local irreducible] LC.wp opsWp thenQ blockQ retQ resWp LO.wp callPost Calls
set_option linter.unusedSimpArgs false
set_option linter.unusedVariables false
end Go.Proofs.YtanlkfeogoganaaDoor
