-- Cut by wip/wslice.py (this session's) out of the printed words. Not trusted: Lean checks it.
import Derived.Test.YtikicibbbeofnaaXInv
import Derived.Test.YtikicibbbeofnaaXFootNe
namespace Go.Proofs.YtikicibbbeofnaaW.PrintWords
open Go.RowKit
end Go.Proofs.YtikicibbbeofnaaW.PrintWords
namespace Go.Proofs.YtikicibbbeofnaaW.PrintLast
section
variable {ops : Array Oper} {a : Act} {o og : Oper} {g : Nat} {t : Tmp} {u : Bool}
end
end Go.Proofs.YtikicibbbeofnaaW.PrintLast
