-- PRINTED BY print.sh 35421559b90ae4d0a3588c463048766b98c2df88dd9212a6774a882060cdf62d: not written by this session
import Derived.Test.YtmnojohcfalodaaDoorProg
import Derived.Below
import Derived.Deep.Draws
import Derived.Deep.AppendLies
import Derived.Maps.AppendAt
import Derived.OwnWalk
import Derived.Laws.BytesArg
import Derived.Laws.MakeOwn
import Derived.Laws.OwnMore
import Derived.Deep.OwnRows
import Derived.Tactics
import Derived.Lib.ConvBytes
import Derived.Laws.Slices
import Derived.WalkKit
import Derived.KernelRfl
import Derived.RowKit3
import Derived.Deep.LoopGhost
import Derived.Deep.QuietTactic
import Derived.BigQuiet
import Derived.WideLaws
import Derived.Deep.DeepCutAuto
import Derived.Deep.CutBlock
import Derived.Deep.RegionHeld3
import Derived.Laws.Rows
import Derived.Lib.AppendStr
import Derived.ArgAppend
import Derived.Laws.IdiomCopy
import Derived.OrdersHeld
import Derived.Laws.BitsLemmas
import Derived.RowKit
import Derived.Test.YtmnojohcfalodaaDoorWWords
import Derived.Test.YtmnojohcfalodaaDoorWLast
import Derived.Test.YtmnojohcfalodaaDoorWTab
import Derived.Test.YtmnojohcfalodaaDoorWFour
import Derived.Test.YtmnojohcfalodaaDoorWQPut
import Derived.Test.YtmnojohcfalodaaDoorWApart
import Derived.Test.YtmnojohcfalodaaDoorWArr
import Derived.Test.YtmnojohcfalodaaDoorWZeros
import Derived.Test.YtmnojohcfalodaaDoorWFoot
import Derived.Test.YtmnojohcfalodaaDoorWKept
import Derived.Test.YtmnojohcfalodaaDoorWShare
import Derived.Test.YtmnojohcfalodaaDoorWN
import Derived.Test.YtmnojohcfalodaaDoorWFootNe
import Derived.Test.YtmnojohcfalodaaDoorWAt
import Derived.Test.YtmnojohcfalodaaDoorWEqStruct
import Derived.Test.YtmnojohcfalodaaDoorWRepsOne
import Derived.Test.YtmnojohcfalodaaDoorWInv
import Derived.Test.YtmnojohcfalodaaDoorWInvWords
import Derived.Test.YtmnojohcfalodaaDoorWGuard
import Derived.Test.YtmnojohcfalodaaDoorWNEv
import Derived.Test.YtmnojohcfalodaaDoorWMore
namespace Go.Proofs.YtmnojohcfalodaaDoor.PTallyOrder
open Go.RowKit Go.Proofs.YtmnojohcfalodaaDoorW.PrintWords Go.Proofs.YtmnojohcfalodaaDoorW.PrintLast Go.Proofs.YtmnojohcfalodaaDoorW.PrintMore
attribute [local go_sem] max2_int min2_int max_two min_two max_three min_three max_four min_four   -- for this text's walks alone
set_option linter.unusedVariables false
set_option linter.unusedSimpArgs false



def errW : Option Int → Value
  | none => .nilIface
  | some c => .iface 0 (.int .i64 c)
theorem errW_none : errW none = .nilIface := rfl
theorem errW_some (c : Int) : errW (some c) = .iface 0 (.int .i64 c) := rfl

theorem info37 : (Tryd.prog.info? 37).map (fun i => (i.zero, i.size, i.bytes)) = some (some (.int .u32 0), 1, 4) := by kernel_rfl
-- the values' own types

end Go.Proofs.YtmnojohcfalodaaDoor.PTallyOrder
