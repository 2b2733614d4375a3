/- Three functions of package tag as plain Lean functions, and that the Go functions answer as these do; for every input. -/
import Derived.Test.YtekkjikmcnndoaaProg
import Derived.Below
import Derived.Deep.Draws
import Derived.Deep.AppendLies
import Derived.Maps.AppendAt
import Derived.OwnWalk
import Derived.Laws.BytesArg
import Derived.Laws.MakeOwn
import Derived.Laws.OwnMore
import Derived.Deep.OwnRows
import Derived.Tactics
import Derived.Lib.ConvBytes
import Derived.Laws.Slices
import Derived.WalkKit
import Derived.KernelRfl
import Derived.RowKit3
import Derived.Deep.LoopGhost
import Derived.Deep.QuietTactic
import Derived.BigQuiet
import Derived.WideLaws
import Derived.Deep.DeepCutAuto
import Derived.Deep.CutBlock
import Derived.Deep.RegionHeld3
import Derived.Laws.Rows
import Derived.Lib.AppendStr
import Derived.ArgAppend
import Derived.Laws.IdiomCopy
import Derived.OrdersHeld
import Derived.Laws.BitsLemmas
import Derived.RowKit
import Derived.Test.YtekkjikmcnndoaaWWords
import Derived.Test.YtekkjikmcnndoaaWLast
import Derived.Test.YtekkjikmcnndoaaWTab
import Derived.Test.YtekkjikmcnndoaaWQPut
import Derived.Test.YtekkjikmcnndoaaWApart
import Derived.Test.YtekkjikmcnndoaaWArr
import Derived.Test.YtekkjikmcnndoaaWZeros
import Derived.Test.YtekkjikmcnndoaaWFoot
import Derived.Test.YtekkjikmcnndoaaWKept
import Derived.Test.YtekkjikmcnndoaaWShare
import Derived.Test.YtekkjikmcnndoaaWN
import Derived.Test.YtekkjikmcnndoaaWRepsOne
import Derived.Test.YtekkjikmcnndoaaWGuard
import Derived.Test.YtekkjikmcnndoaaWNEv
import Derived.Test.YtekkjikmcnndoaaWMore
namespace Go.Proofs.Ytekkjikmcnndoaa.Pa
open Go.RowKit Go.Proofs.YtekkjikmcnndoaaW.PrintWords Go.Proofs.YtekkjikmcnndoaaW.PrintLast Go.Proofs.YtekkjikmcnndoaaW.PrintMore
attribute [local go_sem] max2_int min2_int max_two min_two max_three min_three max_four min_four   -- for this text's walks alone
set_option linter.unusedVariables false
set_option linter.unusedSimpArgs false



def errW : Option Int → Value
 | none => .nilIface
 | some c => .iface 0 (.int .i64 c)
theorem errW_none : errW none = .nilIface := rfl
theorem errW_some (c : Int) : errW (some c) = .iface 0 (.int .i64 c) := rfl

-- the values' own types

end Go.Proofs.Ytekkjikmcnndoaa.Pa
