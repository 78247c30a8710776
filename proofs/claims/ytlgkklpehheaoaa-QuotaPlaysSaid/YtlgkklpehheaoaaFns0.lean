/- The machine's side of the functions of quota and of its reference: what each computes, as a plain Lean function, and that the Go code comes to just that (part 0). No condition beyond the statements' own. (The text began as the kit's print.sh wrote it for this seat.) -/
import Derived.Test.YtlgkklpehheaoaaProg
import Derived.Below
import Derived.Deep.Draws
import Derived.Deep.AppendLies
import Derived.Maps.AppendAt
import Derived.OwnWalk
import Derived.Laws.BytesArg
import Derived.Laws.MakeOwn
import Derived.Laws.OwnMore
import Derived.Deep.OwnRows
import Derived.Tactics
import Derived.Lib.ConvBytes
import Derived.Laws.Slices
import Derived.WalkKit
import Derived.KernelRfl
import Derived.RowKit3
import Derived.Deep.LoopGhost
import Derived.Deep.QuietTactic
import Derived.BigQuiet
import Derived.WideLaws
import Derived.Deep.DeepCutAuto
import Derived.Deep.CutBlock
import Derived.Deep.RegionHeld3
import Derived.Laws.Rows
import Derived.Lib.AppendStr
import Derived.ArgAppend
import Derived.Laws.IdiomCopy
import Derived.OrdersHeld
import Derived.Laws.BitsLemmas
import Derived.RowKit
import Derived.Test.YtlgkklpehheaoaaWWords
import Derived.Test.YtlgkklpehheaoaaWLast
import Derived.Test.YtlgkklpehheaoaaWTab
import Derived.Test.YtlgkklpehheaoaaWFour
import Derived.Test.YtlgkklpehheaoaaWQPut
import Derived.Test.YtlgkklpehheaoaaWApart
import Derived.Test.YtlgkklpehheaoaaWArr
import Derived.Test.YtlgkklpehheaoaaWZeros
import Derived.Test.YtlgkklpehheaoaaWFoot
import Derived.Test.YtlgkklpehheaoaaWKept
import Derived.Test.YtlgkklpehheaoaaWShare
import Derived.Test.YtlgkklpehheaoaaWN
import Derived.Test.YtlgkklpehheaoaaWFootNe
import Derived.Test.YtlgkklpehheaoaaWAt
import Derived.Test.YtlgkklpehheaoaaWEqStruct
import Derived.Test.YtlgkklpehheaoaaWRepsOne
import Derived.Test.YtlgkklpehheaoaaWInv
import Derived.Test.YtlgkklpehheaoaaWInvWords
import Derived.Test.YtlgkklpehheaoaaWGuard
import Derived.Test.YtlgkklpehheaoaaWNEv
import Derived.Test.YtlgkklpehheaoaaWMore
namespace Go.Proofs.Ytlgkklpehheaoaa.PQuotaPlays
open Go.RowKit Go.Proofs.YtlgkklpehheaoaaW.PrintWords Go.Proofs.YtlgkklpehheaoaaW.PrintLast Go.Proofs.YtlgkklpehheaoaaW.PrintMore
attribute [local go_sem] max2_int min2_int max_two min_two max_three min_three max_four min_four   -- for this text's walks alone
set_option linter.unusedVariables false
set_option linter.unusedSimpArgs false



def errW : Option Int → Value
  | none => .nilIface
  | some c => .iface 0 (.int .i64 c)
theorem errW_none : errW none = .nilIface := rfl
theorem errW_some (c : Int) : errW (some c) = .iface 0 (.int .i64 c) := rfl

theorem info3 : (Try.prog.info? 3).map (fun i => (i.zero, i.size, i.bytes)) = some (some (.int .i64 0), 1, 8) := by kernel_rfl
-- the values' own types

end Go.Proofs.Ytlgkklpehheaoaa.PQuotaPlays
