/- Lean functions for the Go functions named below, and that each call comes to just what its function answers, at every argument at which it answers. Written by this session's program wip/xp.py. -/
import Derived.Test.YtaldbnbceboelaaProg
import Derived.Below
import Derived.Deep.Draws
import Derived.Deep.AppendLies
import Derived.Maps.AppendAt
import Derived.OwnWalk
import Derived.Laws.BytesArg
import Derived.Laws.MakeOwn
import Derived.Laws.OwnMore
import Derived.Deep.OwnRows
import Derived.Tactics
import Derived.Lib.ConvBytes
import Derived.Laws.Slices
import Derived.WalkKit
import Derived.KernelRfl
import Derived.RowKit3
import Derived.Deep.LoopGhost
import Derived.Deep.QuietTactic
import Derived.BigQuiet
import Derived.WideLaws
import Derived.Deep.DeepCutAuto
import Derived.Deep.CutBlock
import Derived.Deep.RegionHeld3
import Derived.Laws.Rows
import Derived.Lib.AppendStr
import Derived.ArgAppend
import Derived.Laws.IdiomCopy
import Derived.OrdersHeld
import Derived.Laws.BitsLemmas
import Derived.RowKit
import Derived.Test.YtaldbnbceboelaaExtIndexByte
import Derived.Test.YtaldbnbceboelaaWWords
import Derived.Test.YtaldbnbceboelaaWLast
import Derived.Test.YtaldbnbceboelaaWTab
import Derived.Test.YtaldbnbceboelaaWFour
import Derived.Test.YtaldbnbceboelaaWQPut
import Derived.Test.YtaldbnbceboelaaWApart
import Derived.Test.YtaldbnbceboelaaWArr
import Derived.Test.YtaldbnbceboelaaWZeros
import Derived.Test.YtaldbnbceboelaaWFoot
import Derived.Test.YtaldbnbceboelaaWKept
import Derived.Test.YtaldbnbceboelaaWShare
import Derived.Test.YtaldbnbceboelaaWN
import Derived.Test.YtaldbnbceboelaaWFootNe
import Derived.Test.YtaldbnbceboelaaWAt
import Derived.Test.YtaldbnbceboelaaWEqStruct
import Derived.Test.YtaldbnbceboelaaWRepsOne
import Derived.Test.YtaldbnbceboelaaWInv
import Derived.Test.YtaldbnbceboelaaWInvWords
import Derived.Test.YtaldbnbceboelaaWGuard
import Derived.Test.YtaldbnbceboelaaWNEv
import Derived.Test.YtaldbnbceboelaaWMore
namespace Go.Proofs.Ytaldbnbceboelaa.A
open Go.RowKit Go.Proofs.Ytaldbnbceboelaa.Ext Go.Proofs.YtaldbnbceboelaaW.PrintWords Go.Proofs.YtaldbnbceboelaaW.PrintLast Go.Proofs.YtaldbnbceboelaaW.PrintMore
attribute [local go_sem] max2_int min2_int max_two min_two max_three min_three max_four min_four   -- for this text's walks alone
set_option linter.unusedVariables false
set_option linter.unusedSimpArgs false



def errW : Option Int → Value
  | none => .nilIface
  | some c => .iface 0 (.int .i64 c)
theorem errW_none : errW none = .nilIface := rfl
theorem errW_some (c : Int) : errW (some c) = .iface 0 (.int .i64 c) := rfl

theorem info3 : (Try.prog.info? 3).map (fun i => (i.zero, i.size, i.bytes)) = some (some (.int .i64 0), 1, 8) := by kernel_rfl
-- the values' own types

end Go.Proofs.Ytaldbnbceboelaa.A
