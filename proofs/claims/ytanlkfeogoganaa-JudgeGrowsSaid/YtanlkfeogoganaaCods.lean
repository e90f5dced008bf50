/- How the api's data come in. -/
import Derived.Test.YtanlkfeogoganaaProg
import Derived.Test.YtanlkfeogoganaaModR
namespace Go.Proofs.Ytanlkfeogoganaa
open Go.Lir
def cInt : Cod.Of Try.prog 3 intR := Cod.Of.int (by kernel_rfl) (by kernel_rfl)
def cLong : Cod.Of Try.prog 2 intR := Cod.Of.int (by kernel_rfl) (by kernel_rfl)
def cInts : Cod.Of Try.prog 25 intR.list := Cod.Of.list cInt (by kernel_rfl) (by kernel_rfl) (by kernel_rfl)
def cTy : Cod.Of Try.prog 65 tyR := Cod.Of.ty (TL := 28) (t0 := 3) (t1 := 3) (by kernel_rfl) (by kernel_rfl) (by kernel_rfl) (by kernel_rfl) (by kernel_rfl) (by kernel_rfl) (by kernel_rfl) (by kernel_rfl)
def cTys : Cod.Of Try.prog 28 tyR.list := Cod.Of.list cTy (by kernel_rfl) (by kernel_rfl) (by kernel_rfl)
def cIns : Cod.Of Try.prog 27 insR := Cod.Of.ins cInt cLong cInts (by kernel_rfl) (by kernel_rfl) (by kernel_rfl) (by kernel_rfl) (by kernel_rfl) (by kernel_rfl) (by kernel_rfl) (by kernel_rfl) (by kernel_rfl)
def cInss : Cod.Of Try.prog 58 insR.list := Cod.Of.list cIns (by kernel_rfl) (by kernel_rfl) (by kernel_rfl)
def cTo : Cod.Of Try.prog 33 toR := Cod.Of.to cInt cInts (by kernel_rfl) (by kernel_rfl) (by kernel_rfl) (by kernel_rfl)
def cEnd : Cod.Of Try.prog 35 endR := Cod.Of.endp cInt cInts cTo (by kernel_rfl) (by kernel_rfl) (by kernel_rfl) (by kernel_rfl) (by kernel_rfl) (by kernel_rfl)
def cBlock : Cod.Of Try.prog 77 blockR := Cod.Of.block cInt cTys cInss cEnd (by kernel_rfl) (by kernel_rfl) (by kernel_rfl) (by kernel_rfl) (by kernel_rfl)
def cBlocks : Cod.Of Try.prog 29 blockR.list := Cod.Of.list cBlock (by kernel_rfl) (by kernel_rfl) (by kernel_rfl)
def cFunc : Cod.Of Try.prog 31 funcR := Cod.Of.func cInt cTys cBlocks (by kernel_rfl) (by kernel_rfl) (by kernel_rfl) (by kernel_rfl) (by kernel_rfl)
def cFuncs : Cod.Of Try.prog 22 funcR.list := Cod.Of.list cFunc (by kernel_rfl) (by kernel_rfl) (by kernel_rfl)
def cMod : Cod.Of Try.prog 24 modR := Cod.Of.mod cFuncs (by kernel_rfl) (by kernel_rfl)
end Go.Proofs.Ytanlkfeogoganaa
