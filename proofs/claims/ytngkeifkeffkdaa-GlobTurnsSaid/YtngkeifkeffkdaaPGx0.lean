-- WRITTEN BY A PROGRAM OF THIS SESSION (wip/tools/xprint.py, over the kit's print.py).
import Derived.Test.YtngkeifkeffkdaaProg
import Derived.WalkLawsBesides
import Derived.Below
import Derived.Deep.Draws
import Derived.Deep.AppendLies
import Derived.Maps.AppendAt
import Derived.OwnWalk
import Derived.Laws.BytesArg
import Derived.Laws.MakeOwn
import Derived.Laws.OwnMore
import Derived.Deep.OwnRows
import Derived.Tactics
import Derived.Lib.ConvBytes
import Derived.Laws.Slices
import Derived.WalkKit
import Derived.KernelRfl
import Derived.RowKit3
import Derived.Deep.LoopGhost
import Derived.Deep.QuietTactic
import Derived.BigQuiet
import Derived.WideLaws
import Derived.Deep.DeepCutAuto
import Derived.Deep.CutBlock
import Derived.Deep.RegionHeld3
import Derived.Laws.Rows
import Derived.Lib.AppendStr
import Derived.ArgAppend
import Derived.Laws.IdiomCopy
import Derived.OrdersHeld
import Derived.Laws.BitsLemmas
import Derived.RowKit
import Derived.Test.YtngkeifkeffkdaaFloatSmall
import Derived.Test.YtngkeifkeffkdaaShelf
import Derived.WalkLawsBesides
import Derived.WalkSpells
import Derived.Test.YtngkeifkeffkdaaWWords
import Derived.Test.YtngkeifkeffkdaaWLast
import Derived.Test.YtngkeifkeffkdaaWTab
import Derived.Test.YtngkeifkeffkdaaWFour
import Derived.Test.YtngkeifkeffkdaaWQPut
import Derived.Test.YtngkeifkeffkdaaWApart
import Derived.Test.YtngkeifkeffkdaaWArr
import Derived.Test.YtngkeifkeffkdaaWZeros
import Derived.Test.YtngkeifkeffkdaaWFoot
import Derived.Test.YtngkeifkeffkdaaWKept
import Derived.Test.YtngkeifkeffkdaaWShare
import Derived.Test.YtngkeifkeffkdaaWN
import Derived.Test.YtngkeifkeffkdaaWFootNe
import Derived.Test.YtngkeifkeffkdaaWAt
import Derived.Test.YtngkeifkeffkdaaWEqStruct
import Derived.Test.YtngkeifkeffkdaaWRepsOne
import Derived.Test.YtngkeifkeffkdaaWInv
import Derived.Test.YtngkeifkeffkdaaWInvWords
import Derived.Test.YtngkeifkeffkdaaWGuard
import Derived.Test.YtngkeifkeffkdaaWNEv
import Derived.Test.YtngkeifkeffkdaaWMore
namespace Go.Proofs.Ytngkeifkeffkdaa.PG
open Go.RowKit Go.Proofs.YtngkeifkeffkdaaW.PrintWords Go.Proofs.YtngkeifkeffkdaaW.PrintLast Go.Proofs.YtngkeifkeffkdaaW.PrintMore
attribute [local go_sem] max2_int min2_int max_two min_two max_three min_three max_four min_four   -- for this text's walks alone
set_option linter.unusedVariables false
set_option linter.unusedSimpArgs false



def errW : Option Int → Value
  | none => .nilIface
  | some c => .iface 0 (.int .i64 c)
theorem errW_none : errW none = .nilIface := rfl
theorem errW_some (c : Int) : errW (some c) = .iface 0 (.int .i64 c) := rfl

theorem info9 : (Try.prog.info? 9).map (fun i => (i.zero, i.size, i.bytes)) = some (some (.string ⟨#[]⟩), 1, 16) := by kernel_rfl
-- the values' own types

end Go.Proofs.Ytngkeifkeffkdaa.PG
