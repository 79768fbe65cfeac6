import Derived.Test.YtjbpcffmeaadeaaRows
import Derived.WalkKit
import Derived.ProofKit
/- Facts on the program alone that every row asks: shown once, here. -/
namespace Go.Proofs.Ytjbpcffmeaadeaa.Join
open Go.ChangeShapes Go.WideShapes Go.ChangeAt Go.RowKit
theorem laidOut : laidOutB Try.pinned.checked.prog = true := by kernel_rfl
theorem mapsRow : mapsRowed Try.pinned.checked.prog = true := by kernel_rfl
theorem heard : Try.pinned.checked.prog.stopsHeard = true := by kernel_rfl
theorem enter : Try.pinned.checked.prog.mayEnter = true := by kernel_rfl
theorem lifts : Try.pinned.checked.prog.liftsFinal = false := by kernel_rfl
theorem makes : Try.pinned.checked.prog.make = some .cut := by kernel_rfl
theorem plains : Try.pinned.checked.prog.plainKeys = true := by kernel_rfl
end Go.Proofs.Ytjbpcffmeaadeaa.Join
