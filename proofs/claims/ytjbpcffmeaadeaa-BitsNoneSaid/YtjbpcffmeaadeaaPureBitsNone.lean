import Derived.Test.YtjbpcffmeaadeaaH12
import Derived.Test.YtjbpcffmeaadeaaMA
/- BitsNone: the walk and the plain law, joined. -/
namespace Go.Proofs.Ytjbpcffmeaadeaa.Pp
open Go.RowKit Go.Proofs.Ytjbpcffmeaadeaa.Pr Go.Proofs.YtjbpcffmeaadeaaW.PrintWords Go.Proofs.YtjbpcffmeaadeaaW.PrintLast Go.Proofs.YtjbpcffmeaadeaaW.PrintMore
theorem bitsNone_walk (c : Bool) (n m : Int) (s : ByteArray) (w : World) : Calls Try.prog 12 #[.agg #[.bool c, .int .i64 n, .int .i64 m, .string s]] w fun e w' => e = .returned (.bool true) ∧ Below w.heap.size w w' := by
  obtain ⟨r, hr, _⟩ := long_f [⟨c, n, m, s⟩] (by simp)
  exact none_walk c n m s w r hr
end Go.Proofs.Ytjbpcffmeaadeaa.Pp
