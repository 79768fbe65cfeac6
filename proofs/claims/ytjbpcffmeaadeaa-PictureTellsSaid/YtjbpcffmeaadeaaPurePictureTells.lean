import Derived.Test.YtjbpcffmeaadeaaM8
import Derived.Test.YtjbpcffmeaadeaaH3
/- PictureTells: the walk and the plain law, joined. -/
namespace Go.Proofs.Ytjbpcffmeaadeaa.Pc
open Go.RowKit Go.Proofs.Ytjbpcffmeaadeaa.Pr Go.Proofs.YtjbpcffmeaadeaaW.PrintWords Go.Proofs.YtjbpcffmeaadeaaW.PrintLast Go.Proofs.YtjbpcffmeaadeaaW.PrintMore

theorem pictureTells_walk (t ty : Int) (a0 : Option Addr) (len0 cap0 : Nat) (z0 : List Int) (w : World) (w0 : (a0 = none ∧ len0 = 0 ∧ cap0 = 0 ∧ z0 = []) ∨ ∃ x, a0 = some x ∧ len0 ≤ cap0 ∧ cap0 ≤ maxLen ∧ z0.length = cap0 ∧ (∀ i, i < z0.length → w.cell? (x.add i) = some (.int .u8 (z0.getD i 0))) ∧ ∀ n ∈ z0, (Lit.int .u8 n).wf = true) :
    Calls Try.prog 3 #[.agg #[.int .i64 t, .int .i64 ty, .slice a0 len0 cap0]] w fun e w' => e = .returned (.bool true) ∧ Below w.heap.size w w' := by
  obtain ⟨l0, rfl, hr0, hm0, hw0, hc0⟩ := ReadsInt.ofRowC w0
  obtain ⟨chk, hc⟩ := check_some t ty l0
  have hC := Kd.C_of_reads (d := (0 : Int)) (h1 := fun _ => rfl) hr0
  have ha : praxinoscopelaw17_awake.f 3000 = some true := mono_le _ praxinoscopelaw17_awake.mono (show 60 ≤ 3000 by decide) (by decide +kernel)
  by_cases h60 : l0.length ≤ 60
  · have hb := OkB.of_wf (l := l0) (by omega) hw0
    obtain ⟨x, e, p1, p2⟩ := put_both t ty l0 hb 3000 (by omega) (by omega)
    exact PictureTells_calls t ty a0 cap0 l0 w 3000 x e chk _ hC hc0 ha (fun _ => p1) (fun _ => p2) hc ((check_both t ty l0).trans hc) rfl (format_both t ty l0)
  · exact PictureTells_calls t ty a0 cap0 l0 w 3000 ⟨#[]⟩ 0 chk _ hC hc0 ha (fun h => absurd h h60) (fun h => absurd h h60) hc ((check_both t ty l0).trans hc) rfl (format_both t ty l0)
end Go.Proofs.Ytjbpcffmeaadeaa.Pc
