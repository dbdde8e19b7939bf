-- Written by wip/hprint.py (this session's) with the kit's printer and contracts of our own. Not trusted: Lean checks it.
import Derived.Test.YtikicibbbeofnaaProg
import Derived.Below
import Derived.Deep.Draws
import Derived.Deep.AppendLies
import Derived.Maps.AppendAt
import Derived.OwnWalk
import Derived.Laws.BytesArg
import Derived.Laws.MakeOwn
import Derived.Laws.OwnMore
import Derived.Deep.OwnRows
import Derived.Tactics
import Derived.Lib.ConvBytes
import Derived.Laws.Slices
import Derived.WalkKit
import Derived.KernelRfl
import Derived.RowKit3
import Derived.Deep.LoopGhost
import Derived.Deep.QuietTactic
import Derived.BigQuiet
import Derived.WideLaws
import Derived.Deep.DeepCutAuto
import Derived.Deep.CutBlock
import Derived.Deep.RegionHeld3
import Derived.Laws.Rows
import Derived.Lib.AppendStr
import Derived.ArgAppend
import Derived.Laws.IdiomCopy
import Derived.OrdersHeld
import Derived.Laws.BitsLemmas
import Derived.RowKit
import Derived.Test.YtikicibbbeofnaaWWords
import Derived.Test.YtikicibbbeofnaaWLast
import Derived.Test.YtikicibbbeofnaaWTab
import Derived.Test.YtikicibbbeofnaaWFour
import Derived.Test.YtikicibbbeofnaaWQPut
import Derived.Test.YtikicibbbeofnaaWApart
import Derived.Test.YtikicibbbeofnaaWArr
import Derived.Test.YtikicibbbeofnaaWZeros
import Derived.Test.YtikicibbbeofnaaWFoot
import Derived.Test.YtikicibbbeofnaaWKept
import Derived.Test.YtikicibbbeofnaaWShare
import Derived.Test.YtikicibbbeofnaaWN
import Derived.Test.YtikicibbbeofnaaWFootNe
import Derived.Test.YtikicibbbeofnaaWAt
import Derived.Test.YtikicibbbeofnaaWEqStruct
import Derived.Test.YtikicibbbeofnaaWRepsOne
import Derived.Test.YtikicibbbeofnaaWInv
import Derived.Test.YtikicibbbeofnaaWInvWords
import Derived.Test.YtikicibbbeofnaaWGuard
import Derived.Test.YtikicibbbeofnaaWNEv
import Derived.Test.YtikicibbbeofnaaWMore
namespace Go.Proofs.Ytikicibbbeofnaa.D
open Go.RowKit Go.Proofs.YtikicibbbeofnaaW.PrintWords Go.Proofs.YtikicibbbeofnaaW.PrintLast Go.Proofs.YtikicibbbeofnaaW.PrintMore
attribute [local go_sem] max2_int min2_int max_two min_two max_three min_three max_four min_four   -- for this text's walks alone
set_option linter.unusedVariables false
set_option linter.unusedSimpArgs false



def errW : Option Int → Value
  | none => .nilIface
  | some c => .iface 0 (.int .i64 c)
theorem errW_none : errW none = .nilIface := rfl
theorem errW_some (c : Int) : errW (some c) = .iface 0 (.int .i64 c) := rfl

@[go_sem] theorem fld30_1 (c0 c1 : Value) (W : World) : (Instr.field 30 (.agg #[c0, c1]) 1).run Try.prog W = .ok c1 W := by kernel_rfl
theorem info3 : (Try.prog.info? 3).map (fun i => (i.zero, i.size, i.bytes)) = some (some (.int .i64 0), 1, 8) := by kernel_rfl
-- the values' own types

end Go.Proofs.Ytikicibbbeofnaa.D
