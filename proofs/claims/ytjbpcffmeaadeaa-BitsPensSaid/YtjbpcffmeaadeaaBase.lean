-- Written by myprint.py (wip/tools of this place's repo), over the kit's print.py. Not trusted: Lean checks it.
import Derived.Test.YtjbpcffmeaadeaaBase0
import Derived.Test.YtjbpcffmeaadeaaBase1
import Derived.Test.YtjbpcffmeaadeaaBase2
import Derived.Test.YtjbpcffmeaadeaaBase3
import Derived.Test.YtjbpcffmeaadeaaBase4
import Derived.Test.YtjbpcffmeaadeaaBase5
namespace Go.Proofs.Ytjbpcffmeaadeaa.Pr
open Go.RowKit Go.Proofs.YtjbpcffmeaadeaaW.PrintWords Go.Proofs.YtjbpcffmeaadeaaW.PrintLast Go.Proofs.YtjbpcffmeaadeaaW.PrintMore
attribute [local go_sem] max2_int min2_int max_two min_two max_three min_three max_four min_four   -- for this text's walks alone
set_option linter.unusedVariables false
set_option linter.unusedSimpArgs false

end Go.Proofs.Ytjbpcffmeaadeaa.Pr
