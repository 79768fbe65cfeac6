import Derived.Test.YtjbpcffmeaadeaaP8
/- BitsKnown's contract, in the printed texts' form. -/
namespace Go.Proofs.Ytjbpcffmeaadeaa.Pr
open Go.RowKit
def praxinoscopelaw01_BitsKnown.f : Option Bool := some true
theorem praxinoscopelaw01_BitsKnown.calls (r : Bool) (w : World) (h : praxinoscopelaw01_BitsKnown.f = some r) :
    Calls Try.prog 14 #[] w fun e w' => e = .returned (.bool r) ∧ Below w.heap.size w w' := by
  obtain rfl := Option.some.inj h
  exact Pp.known_calls w
end Go.Proofs.Ytjbpcffmeaadeaa.Pr
