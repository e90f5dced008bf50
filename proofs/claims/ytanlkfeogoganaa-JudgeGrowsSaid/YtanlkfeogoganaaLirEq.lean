/- Structs of integers, the same or not. -/
import Derived.Test.YtanlkfeogoganaaLirSt
namespace Go.Lir
section
variable {P : Program} {l : List GO} {Q : QT} {ρ : Env} {w : World}
end
end Go.Lir
