-- Written by a program of this session (mk.sh, mypatch.py)
import Derived.Test.YtcopbkdlpfcjpaaProg
import Derived.Below
import Derived.Deep.Draws
import Derived.Deep.AppendLies
import Derived.Maps.AppendAt
import Derived.OwnWalk
import Derived.Laws.BytesArg
import Derived.Laws.MakeOwn
import Derived.Laws.OwnMore
import Derived.Deep.OwnRows
import Derived.Tactics
import Derived.Lib.ConvBytes
import Derived.Laws.Slices
import Derived.WalkKit
import Derived.KernelRfl
import Derived.RowKit3
import Derived.Deep.LoopGhost
import Derived.Deep.QuietTactic
import Derived.BigQuiet
import Derived.WideLaws
import Derived.Deep.DeepCutAuto
import Derived.Deep.CutBlock
import Derived.Deep.RegionHeld3
import Derived.Laws.Rows
import Derived.Lib.AppendStr
import Derived.ArgAppend
import Derived.Laws.IdiomCopy
import Derived.OrdersHeld
import Derived.Laws.BitsLemmas
import Derived.RowKit
import Derived.Test.YtcopbkdlpfcjpaaMine
import Derived.Test.YtcopbkdlpfcjpaaGiven
import Derived.Test.YtcopbkdlpfcjpaaWWords
import Derived.Test.YtcopbkdlpfcjpaaWLast
import Derived.Test.YtcopbkdlpfcjpaaWTab
import Derived.Test.YtcopbkdlpfcjpaaWFour
import Derived.Test.YtcopbkdlpfcjpaaWQPut
import Derived.Test.YtcopbkdlpfcjpaaWApart
import Derived.Test.YtcopbkdlpfcjpaaWArr
import Derived.Test.YtcopbkdlpfcjpaaWZeros
import Derived.Test.YtcopbkdlpfcjpaaWFoot
import Derived.Test.YtcopbkdlpfcjpaaWKept
import Derived.Test.YtcopbkdlpfcjpaaWShare
import Derived.Test.YtcopbkdlpfcjpaaWN
import Derived.Test.YtcopbkdlpfcjpaaWFootNe
import Derived.Test.YtcopbkdlpfcjpaaWAt
import Derived.Test.YtcopbkdlpfcjpaaWEqStruct
import Derived.Test.YtcopbkdlpfcjpaaWRepsOne
import Derived.Test.YtcopbkdlpfcjpaaWInv
import Derived.Test.YtcopbkdlpfcjpaaWInvWords
import Derived.Test.YtcopbkdlpfcjpaaWGuard
import Derived.Test.YtcopbkdlpfcjpaaWNEv
import Derived.Test.YtcopbkdlpfcjpaaWMore
namespace Go.Proofs.Ytcopbkdlpfcjpaa.B
open Go.RowKit Go.Proofs.YtcopbkdlpfcjpaaW.PrintWords Go.Proofs.YtcopbkdlpfcjpaaW.PrintLast Go.Proofs.YtcopbkdlpfcjpaaW.PrintMore
attribute [local go_sem] max2_int min2_int max_two min_two max_three min_three max_four min_four   -- for this text's walks alone
set_option linter.unusedVariables false
set_option linter.unusedSimpArgs false



def errW : Option Int → Value
  | none => .nilIface
  | some c => .iface 0 (.int .i64 c)
theorem errW_none : errW none = .nilIface := rfl
theorem errW_some (c : Int) : errW (some c) = .iface 0 (.int .i64 c) := rfl

theorem info5 : (Try.prog.info? 5).map (fun i => (i.zero, i.size, i.bytes)) = some (some (.int .u8 0), 1, 1) := by kernel_rfl
-- the values' own types

end Go.Proofs.Ytcopbkdlpfcjpaa.B
