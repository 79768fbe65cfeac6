-- Written by myprint.py (wip/tools of this place's repo), over the kit's print.py. Not trusted: Lean checks it.
import Derived.Test.YtjbpcffmeaadeaaProg
import Derived.Below
import Derived.Deep.Draws
import Derived.Deep.AppendLies
import Derived.Maps.AppendAt
import Derived.OwnWalk
import Derived.Laws.BytesArg
import Derived.Laws.MakeOwn
import Derived.Laws.OwnMore
import Derived.Deep.OwnRows
import Derived.Tactics
import Derived.Lib.ConvBytes
import Derived.Laws.Slices
import Derived.WalkKit
import Derived.KernelRfl
import Derived.RowKit3
import Derived.Deep.LoopGhost
import Derived.Deep.QuietTactic
import Derived.BigQuiet
import Derived.WideLaws
import Derived.Deep.DeepCutAuto
import Derived.Deep.CutBlock
import Derived.Deep.RegionHeld3
import Derived.Laws.Rows
import Derived.Lib.AppendStr
import Derived.ArgAppend
import Derived.Laws.IdiomCopy
import Derived.OrdersHeld
import Derived.Laws.BitsLemmas
import Derived.RowKit
import Derived.Test.YtjbpcffmeaadeaaBase
import Derived.Test.YtjbpcffmeaadeaaGivenA
import Derived.Test.YtjbpcffmeaadeaaWWords
import Derived.Test.YtjbpcffmeaadeaaWLast
import Derived.Test.YtjbpcffmeaadeaaWTab
import Derived.Test.YtjbpcffmeaadeaaWFour
import Derived.Test.YtjbpcffmeaadeaaWQPut
import Derived.Test.YtjbpcffmeaadeaaWApart
import Derived.Test.YtjbpcffmeaadeaaWArr
import Derived.Test.YtjbpcffmeaadeaaWZeros
import Derived.Test.YtjbpcffmeaadeaaWFoot
import Derived.Test.YtjbpcffmeaadeaaWKept
import Derived.Test.YtjbpcffmeaadeaaWShare
import Derived.Test.YtjbpcffmeaadeaaWN
import Derived.Test.YtjbpcffmeaadeaaWFootNe
import Derived.Test.YtjbpcffmeaadeaaWAt
import Derived.Test.YtjbpcffmeaadeaaWEqStruct
import Derived.Test.YtjbpcffmeaadeaaWRepsOne
import Derived.Test.YtjbpcffmeaadeaaWInv
import Derived.Test.YtjbpcffmeaadeaaWInvWords
import Derived.Test.YtjbpcffmeaadeaaWGuard
import Derived.Test.YtjbpcffmeaadeaaWNEv
import Derived.Test.YtjbpcffmeaadeaaWMore
namespace Go.Proofs.Ytjbpcffmeaadeaa.Pr
open Go.RowKit Go.Proofs.YtjbpcffmeaadeaaW.PrintWords Go.Proofs.YtjbpcffmeaadeaaW.PrintLast Go.Proofs.YtjbpcffmeaadeaaW.PrintMore
attribute [local go_sem] max2_int min2_int max_two min_two max_three min_three max_four min_four   -- for this text's walks alone
set_option linter.unusedVariables false
set_option linter.unusedSimpArgs false


end Go.Proofs.Ytjbpcffmeaadeaa.Pr
