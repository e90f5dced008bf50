/- More codecs: structs of four and five fields. -/
import Derived.Test.YtanlkfeogoganaaLirRd
import Derived.Test.YtanlkfeogoganaaLirMore
namespace Go.Lir
section
variable {P : Program} {T t0 t1 t2 t3 t4 : TypeId} {α β γ δ ε : Type} {o0 s0 o1 s1 o2 s2 o3 s3 o4 s4 : Nat}
end
end Go.Lir
