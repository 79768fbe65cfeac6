import Derived.Test.YtjbpcffmeaadeaaM6
import Derived.Test.YtjbpcffmeaadeaaH8
/- GroupGets: the walk and the plain law, joined. -/
namespace Go.Proofs.Ytjbpcffmeaadeaa.Pl
open Go.RowKit Go.Proofs.Ytjbpcffmeaadeaa.Pr Go.Proofs.YtjbpcffmeaadeaaW.PrintWords Go.Proofs.YtjbpcffmeaadeaaW.PrintLast Go.Proofs.YtjbpcffmeaadeaaW.PrintMore

theorem in64_of_wf {a : Int} (h : (Lit.int .i64 a).wf = true) : in64 a := by
  simp [Lit.wf] at h
  have e1 : IntKind.i64.min = -9223372036854775808 := by rfl
  have e2 : IntKind.i64.max = 9223372036854775807 := by rfl
  unfold in64
  omega

theorem groupGets_walk (a0 : Option Addr) (len0 cap0 : Nat) (z0 : List Int) (a1 : Int) (w : World) (w0 : (a0 = none ∧ len0 = 0 ∧ cap0 = 0 ∧ z0 = []) ∨ ∃ x, a0 = some x ∧ len0 ≤ cap0 ∧ cap0 ≤ maxLen ∧ z0.length = cap0 ∧ (∀ i, i < z0.length → w.cell? (x.add i) = some (.int .u8 (z0.getD i 0))) ∧ ∀ n ∈ z0, (Lit.int .u8 n).wf = true) (y0 : len0 * 1 ≤ 140737488351232) (w1 : (Lit.int .i64 a1).wf = true) :
    Calls Try.prog 8 #[.slice a0 len0 cap0, .int .i64 a1] w fun e w' => e = .returned (.bool true) ∧ Below w.heap.size w w' := by
  obtain ⟨l0, rfl, hr0, hm0, hw0, hc0⟩ := ReadsInt.ofRowC w0
  have hb := OkB.of_wf y0 hw0
  have ha := in64_of_wf w1
  by_cases h100 : l0.length ≤ 100
  · obtain ⟨q, s, n, e, g1, g2, g3⟩ := get_both l0 hb a1 ha 1000 (by omega)
    obtain ⟨p2, q2, s2, n2, e2, o1, o2, o3⟩ := open_both l0 hb a1 ha 1000 (by omega)
    obtain ⟨s', h1⟩ := over_f s (by omega) 1000 (by omega)
    obtain ⟨s2', h2⟩ := over_f s2 (by omega) 1000 (by omega)
    exact GroupGets_calls a0 cap0 l0 a1 w 1000 q n e q2 p2 n2 e2 s s' s2 s2' (Kd.C_of_reads (d := (0 : Int)) (h1 := fun _ => rfl) hr0) hc0 (awake18 1000 (by decide)) (fun _ => g1) (fun _ => g2) (fun _ => h1) (fun _ => o1) (fun _ => o2) (fun _ => h2)
  · exact GroupGets_calls a0 cap0 l0 a1 w 1000 0 0 0 0 0 0 0 [] [] [] [] (Kd.C_of_reads (d := (0 : Int)) (h1 := fun _ => rfl) hr0) hc0 (awake18 1000 (by decide)) (fun h => absurd h h100) (fun h => absurd h h100) (fun h => absurd h h100) (fun h => absurd h h100) (fun h => absurd h h100) (fun h => absurd h h100)
end Go.Proofs.Ytjbpcffmeaadeaa.Pl
