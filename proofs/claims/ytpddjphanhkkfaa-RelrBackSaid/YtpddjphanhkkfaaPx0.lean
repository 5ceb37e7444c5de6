/- For functions of this seat: a plain Lean function each, and the proof that the call answers so; written by a program of this session out of the translation. No condition beyond those that stand in each theorem. -/
import Derived.Test.YtpddjphanhkkfaaProg
import Derived.Below
import Derived.Deep.Draws
import Derived.Deep.AppendLies
import Derived.Maps.AppendAt
import Derived.OwnWalk
import Derived.Laws.BytesArg
import Derived.Laws.MakeOwn
import Derived.Laws.OwnMore
import Derived.Deep.OwnRows
import Derived.Tactics
import Derived.Lib.ConvBytes
import Derived.Laws.Slices
import Derived.WalkKit
import Derived.KernelRfl
import Derived.RowKit3
import Derived.Deep.LoopGhost
import Derived.Deep.QuietTactic
import Derived.BigQuiet
import Derived.WideLaws
import Derived.Deep.DeepCutAuto
import Derived.Deep.CutBlock
import Derived.Deep.RegionHeld3
import Derived.Laws.Rows
import Derived.Lib.AppendStr
import Derived.ArgAppend
import Derived.Laws.IdiomCopy
import Derived.OrdersHeld
import Derived.Laws.BitsLemmas
import Derived.RowKit
import Derived.Test.YtpddjphanhkkfaaRelrDecode
import Derived.Test.YtpddjphanhkkfaaRelrEncode
import Derived.Test.YtpddjphanhkkfaaWWords
import Derived.Test.YtpddjphanhkkfaaWLast
import Derived.Test.YtpddjphanhkkfaaWTab
import Derived.Test.YtpddjphanhkkfaaWFour
import Derived.Test.YtpddjphanhkkfaaWQPut
import Derived.Test.YtpddjphanhkkfaaWApart
import Derived.Test.YtpddjphanhkkfaaWArr
import Derived.Test.YtpddjphanhkkfaaWZeros
import Derived.Test.YtpddjphanhkkfaaWFoot
import Derived.Test.YtpddjphanhkkfaaWKept
import Derived.Test.YtpddjphanhkkfaaWShare
import Derived.Test.YtpddjphanhkkfaaWN
import Derived.Test.YtpddjphanhkkfaaWFootNe
import Derived.Test.YtpddjphanhkkfaaWAt
import Derived.Test.YtpddjphanhkkfaaWEqStruct
import Derived.Test.YtpddjphanhkkfaaWRepsOne
import Derived.Test.YtpddjphanhkkfaaWInv
import Derived.Test.YtpddjphanhkkfaaWInvWords
import Derived.Test.YtpddjphanhkkfaaWGuard
import Derived.Test.YtpddjphanhkkfaaWNEv
import Derived.Test.YtpddjphanhkkfaaWMore
namespace Go.Proofs.Ytpddjphanhkkfaa.P
open Go.RowKit Go.Proofs.YtpddjphanhkkfaaW.PrintWords Go.Proofs.YtpddjphanhkkfaaW.PrintLast Go.Proofs.YtpddjphanhkkfaaW.PrintMore
attribute [local go_sem] max2_int min2_int max_two min_two max_three min_three max_four min_four   -- for this text's walks alone
set_option linter.unusedVariables false
set_option linter.unusedSimpArgs false




def errW : Option Int → Value
  | none => .nilIface
  | some c => .iface 0 (.int .i64 c)
theorem errW_none : errW none = .nilIface := rfl
theorem errW_some (c : Int) : errW (some c) = .iface 0 (.int .i64 c) := rfl

theorem info5 : (Try.prog.info? 5).map (fun i => (i.zero, i.size, i.bytes)) = some (some (.int .u8 0), 1, 1) := by kernel_rfl
theorem info23 : (Try.prog.info? 23).map (fun i => (i.zero, i.size, i.bytes)) = some (some (.int .u64 0), 1, 8) := by kernel_rfl
-- the values' own types

end Go.Proofs.Ytpddjphanhkkfaa.P
