/- Types: the same, in memory of their own, renamed (contracts). -/
import Derived.Test.YtanlkfeogoganaaTyW
import Derived.Test.YtanlkfeogoganaaElT
namespace Go.Proofs.Ytanlkfeogoganaa
open Go.Lir
attribute [local irreducible] LC.wp opsWp thenQ blockQ retQ resWp LO.wp callPost Calls
set_option linter.unusedSimpArgs false
set_option linter.unusedVariables false
end Go.Proofs.Ytanlkfeogoganaa
