-- Cut by wip/wslice.py (this session's) out of the printed words. Not trusted: Lean checks it.
import Derived.Test.YtikicibbbeofnaaXWords
import Derived.Laws.StructEq
/-! ### 53. '==' of structs as_ one Bool -/
namespace Go.Proofs.YtikicibbbeofnaaW.PrintWords
open Go.RowKit
section
variable {P : Program} {d : Nat} {xs ys : Array Value} {f : Field} {fs : List Field} {a b : Value} {r s : Bool} {w : World}
end
end Go.Proofs.YtikicibbbeofnaaW.PrintWords
