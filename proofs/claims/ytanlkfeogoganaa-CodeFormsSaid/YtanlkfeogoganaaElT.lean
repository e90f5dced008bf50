/- What is known of the slices' elements, by the numbers of the types: printed by a program. -/
import Derived.Test.YtanlkfeogoganaaProg
import Derived.Test.YtanlkfeogoganaaLirMore
namespace Go.Proofs.Ytanlkfeogoganaa
open Go.Lir
set_option maxRecDepth 100000
end Go.Proofs.Ytanlkfeogoganaa
