import Derived.Test.YtjbpcffmeaadeaaMB
/- BitsStarts: the walk and the plain law, joined. -/
namespace Go.Proofs.Ytjbpcffmeaadeaa.Pp
open Go.RowKit Go.Proofs.Ytjbpcffmeaadeaa.Pr Go.Proofs.YtjbpcffmeaadeaaW.PrintWords Go.Proofs.YtjbpcffmeaadeaaW.PrintLast Go.Proofs.YtjbpcffmeaadeaaW.PrintMore

theorem bitsStarts_walk (a0 : Option Addr) (len0 cap0 : Nat) (z0 : List Int) (a1 a2 : Int) (w : World) (w0 : (a0 = none ∧ len0 = 0 ∧ cap0 = 0 ∧ z0 = []) ∨ ∃ x, a0 = some x ∧ len0 ≤ cap0 ∧ cap0 ≤ maxLen ∧ z0.length = cap0 ∧ (∀ i, i < z0.length → w.cell? (x.add i) = some (.int .u8 (z0.getD i 0))) ∧ ∀ n ∈ z0, (Lit.int .u8 n).wf = true) :
    Calls Try.prog 17 #[.slice a0 len0 cap0, .int .i64 a1, .int .i64 a2] w fun e w' => e = .returned (.bool true) ∧ Below w.heap.size w w' := by
  obtain ⟨l0, rfl, hr0, hm0, hw0, hc0⟩ := ReadsInt.ofRowC w0
  have hC := Kd.C_of_reads (d := (0 : Int)) (h1 := fun _ => rfl) hr0
  obtain ⟨m, hm, m0, m1⟩ := pick_eq a2 41 (by decide) (by decide)
  obtain ⟨m, rfl⟩ := Int.eq_ofNat_of_zero_le m0
  by_cases h60 : l0.length ≤ 60
  · have hb := OkB.of_wf (l := l0) (by omega) hw0
    obtain ⟨p, hp, p0, p1⟩ := pick_eq a1 (8 * (l0.length : Int) + 1) (by omega) (by omega)
    obtain ⟨p, rfl⟩ := Int.eq_ofNat_of_zero_le p0
    obtain ⟨x, n, e, q, f, b1, s1, s2, s3, s4, s5⟩ := starts_plain l0 hb h60 p (by omega) m (by omega)
    exact starts_walk a0 cap0 l0 a1 a2 w p m x n e q f b1 hC hc0 (fun _ => hp) (fun _ => by omega) (fun _ => s1) (fun _ => s2) s3 (fun h _ => s4 h) hm (by omega)
      (fun _ i hi => by rw [bits_Read_eq l0 hb _ _ 60 (by decide), readP_in1 l0 i (by omega)]) (fun h _ => s5 h)
  · exact starts_walk a0 cap0 l0 a1 a2 w 0 m 0 0 0 0 0 true hC hc0 (fun h => absurd h h60) (fun h => absurd h h60) (fun h => absurd h h60) (fun h => absurd h h60) (fun h => absurd rfl h) (fun _ h => absurd h h60) hm (by omega) (fun h => absurd h h60) (fun _ h => absurd h h60)
end Go.Proofs.Ytjbpcffmeaadeaa.Pp
