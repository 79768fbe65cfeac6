import Derived.Test.YtjbpcffmeaadeaaTopG2
/- The plain law of GroupKnown: a closed value, computed by the kernel. -/
namespace Go.Proofs.Ytjbpcffmeaadeaa.Pure
open Go.RowKit Go.Proofs.Ytjbpcffmeaadeaa.Pr Go.Proofs.YtjbpcffmeaadeaaW.PrintWords Go.Proofs.YtjbpcffmeaadeaaW.PrintLast

theorem GroupKnown : praxinoscopelaw18_GroupKnown.Pure := by
  exact ⟨60, by decide +kernel⟩

end Go.Proofs.Ytjbpcffmeaadeaa.Pure
