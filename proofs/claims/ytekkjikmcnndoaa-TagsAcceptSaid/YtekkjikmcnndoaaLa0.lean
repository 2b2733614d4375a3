/- The law TagsAccept as a plain Lean function, and that the Go function answers as this does; for every input within the sizes that the functions state. -/
import Derived.Test.YtekkjikmcnndoaaProg
import Derived.Below
import Derived.Deep.Draws
import Derived.Deep.AppendLies
import Derived.Maps.AppendAt
import Derived.OwnWalk
import Derived.Laws.BytesArg
import Derived.Laws.MakeOwn
import Derived.Laws.OwnMore
import Derived.Deep.OwnRows
import Derived.Tactics
import Derived.Lib.ConvBytes
import Derived.Laws.Slices
import Derived.WalkKit
import Derived.KernelRfl
import Derived.RowKit3
import Derived.Deep.LoopGhost
import Derived.Deep.QuietTactic
import Derived.BigQuiet
import Derived.WideLaws
import Derived.Deep.DeepCutAuto
import Derived.Deep.CutBlock
import Derived.Deep.RegionHeld3
import Derived.Laws.Rows
import Derived.Lib.AppendStr
import Derived.ArgAppend
import Derived.Laws.IdiomCopy
import Derived.OrdersHeld
import Derived.Laws.BitsLemmas
import Derived.RowKit
import Derived.Test.YtekkjikmcnndoaaSa
import Derived.Test.YtekkjikmcnndoaaP14
import Derived.Test.YtekkjikmcnndoaaP21
import Derived.Test.YtekkjikmcnndoaaP22
import Derived.Test.YtekkjikmcnndoaaWWords
import Derived.Test.YtekkjikmcnndoaaWLast
import Derived.Test.YtekkjikmcnndoaaWTab
import Derived.Test.YtekkjikmcnndoaaWQPut
import Derived.Test.YtekkjikmcnndoaaWApart
import Derived.Test.YtekkjikmcnndoaaWArr
import Derived.Test.YtekkjikmcnndoaaWZeros
import Derived.Test.YtekkjikmcnndoaaWFoot
import Derived.Test.YtekkjikmcnndoaaWKept
import Derived.Test.YtekkjikmcnndoaaWShare
import Derived.Test.YtekkjikmcnndoaaWN
import Derived.Test.YtekkjikmcnndoaaWGuard
import Derived.Test.YtekkjikmcnndoaaWNEv
import Derived.Test.YtekkjikmcnndoaaWMore
namespace Go.Proofs.Ytekkjikmcnndoaa.La
open Go.RowKit Go.Proofs.YtekkjikmcnndoaaW.PrintWords Go.Proofs.YtekkjikmcnndoaaW.PrintLast Go.Proofs.YtekkjikmcnndoaaW.PrintMore Go.Proofs.Ytekkjikmcnndoaa.P
attribute [local go_sem] max2_int min2_int max_two min_two max_three min_three max_four min_four   -- for this text's walks alone
set_option linter.unusedVariables false
set_option linter.unusedSimpArgs false




theorem info3 : (Try.prog.info? 3).map (fun i => (i.zero, i.size, i.bytes)) = some (some (.int .i64 0), 1, 8) := by kernel_rfl
theorem info28 : (Try.prog.info? 28).map (fun i => (i.zero, i.size, i.bytes)) = some (some (.agg #[(.slice none 0 0), (.int .i64 0)]), 2, 32) := by kernel_rfl
theorem info60 : (Try.prog.info? 60).map (fun i => (i.zero, i.size, i.bytes)) = some (some (.agg #[(.int .i64 0), (.int .i64 0)]), 2, 16) := by kernel_rfl
-- the values' own types

end Go.Proofs.Ytekkjikmcnndoaa.La
