import Derived.Test.YtjbpcffmeaadeaaTopP1
/- The plain law of PictureKnown: a closed value, computed by the kernel. -/
namespace Go.Proofs.Ytjbpcffmeaadeaa.Pure
open Go.RowKit Go.Proofs.Ytjbpcffmeaadeaa.Pr Go.Proofs.YtjbpcffmeaadeaaW.PrintWords Go.Proofs.YtjbpcffmeaadeaaW.PrintLast

theorem PictureKnown : praxinoscopelaw17_PictureKnown.Pure := by
  exact ⟨60, by decide +kernel⟩

end Go.Proofs.Ytjbpcffmeaadeaa.Pure
