import Derived.Test.YtjbpcffmeaadeaaM7
import Derived.Test.YtjbpcffmeaadeaaH18
/- GroupPuts: the walk and the plain law, joined. -/
namespace Go.Proofs.Ytjbpcffmeaadeaa.Pl
open Go.RowKit Go.Proofs.Ytjbpcffmeaadeaa.Pr Go.Proofs.YtjbpcffmeaadeaaW.PrintWords Go.Proofs.YtjbpcffmeaadeaaW.PrintLast Go.Proofs.YtjbpcffmeaadeaaW.PrintMore

theorem groupPuts_walk (a0 a1 : Int) (a2 : Option Addr) (len2 cap2 : Nat) (z2 : List Int) (w : World) (w2 : (a2 = none ∧ len2 = 0 ∧ cap2 = 0 ∧ z2 = []) ∨ ∃ x, a2 = some x ∧ len2 ≤ cap2 ∧ cap2 ≤ maxLen ∧ z2.length = cap2 ∧ (∀ i, i < z2.length → w.cell? (x.add i) = some (.int .u8 (z2.getD i 0))) ∧ ∀ n ∈ z2, (Lit.int .u8 n).wf = true) (y2 : len2 * 1 ≤ 140737488351232) :
    Calls Try.prog 18 #[.int .i64 a0, .int .i64 a1, .slice a2 len2 cap2] w fun e w' => e = .returned (.bool true) ∧ Below w.heap.size w w' := by
  obtain ⟨l0, rfl, hr0, hm0, hw0, hc0⟩ := ReadsInt.ofRowC w2
  have hb := OkB.of_wf y2 hw0
  obtain ⟨x2, e2, s1, s2, _⟩ := start_both a0 3000 (by omega)
  by_cases h60 : l0.length ≤ 60
  · obtain ⟨x1, e1, p1, p2, _⟩ := put_both a1 l0 hb (by omega) 3000 (by omega)
    obtain ⟨x3, e3, q1, q2⟩ := whole_both a0 a1 l0 hb (by omega) 3000 (by omega)
    exact GroupPuts_calls a0 a1 a2 cap2 l0 w 3000 x1 x2 x3 e1 e2 e3 (Kd.C_of_reads (d := (0 : Int)) (h1 := fun _ => rfl) hr0) hc0 (awake18 3000 (by decide)) (fun _ => p1) (fun _ => p2) s1 s2 (fun _ => q1) (fun _ => q2)
  · exact GroupPuts_calls a0 a1 a2 cap2 l0 w 3000 x2 x2 x2 0 e2 0 (Kd.C_of_reads (d := (0 : Int)) (h1 := fun _ => rfl) hr0) hc0 (awake18 3000 (by decide)) (fun h => absurd h h60) (fun h => absurd h h60) s1 s2 (fun h => absurd h h60) (fun h => absurd h h60)
end Go.Proofs.Ytjbpcffmeaadeaa.Pl
