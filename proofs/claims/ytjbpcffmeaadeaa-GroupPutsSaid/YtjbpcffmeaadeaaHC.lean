import Derived.Test.YtjbpcffmeaadeaaHL
import Derived.Test.YtjbpcffmeaadeaaM1
/- Of what is lent, and of OverBytes: for the group's laws. -/
namespace Go.Proofs.Ytjbpcffmeaadeaa.Pl
open Go.RowKit Go.Proofs.Ytjbpcffmeaadeaa.Pr Go.Proofs.YtjbpcffmeaadeaaW.PrintWords Go.Proofs.YtjbpcffmeaadeaaW.PrintLast Go.Proofs.YtjbpcffmeaadeaaW.PrintMore

/-- What is lent reads as it was. -/
theorem lent_C {A : Option Addr} {cap base : Nat} {l0 : List Int} {w : World} (hR : Kd.R (Kd.int .u8) 5 w base (fun _ => True) (.slice A (l0.length + 4) cap) (l0 ++ [201, 202, 203, 204])) :
    Kd.C (Kd.int .u8) w A l0.length l0 ∧ l0.length ≤ cap := by
  obtain ⟨hn, hcap, hCA⟩ := Kd.R_reads' hR
  have hRA := Kd.reads_of_C (enc := Value.int .u8) (d := (0 : Int)) (h1 := fun _ => rfl) hCA
  rw [← hn] at hRA
  have := hRA.take_ l0.length (by omega)
  rw [List.take_left' rfl] at this
  exact ⟨Kd.C_of_reads (h1 := fun _ => rfl) this, by omega⟩

theorem over_loop (m : Nat) : ∀ (k : Nat) (x : List Int) (i : Nat), x.length ≤ 1000000 → i + m = x.length → m < k → ∃ r, praxinoscopekit_OverBytes.l0 k x (i : Int) = some r := by
  induction m with
  | zero =>
    intro k x i _ hi hk
    obtain ⟨k, rfl⟩ : ∃ q, k = q + 1 := ⟨k - 1, by omega⟩
    simp only [praxinoscopekit_OverBytes.l0]
    rw [if_neg (by omega)]
    exact ⟨_, rfl⟩
  | succ m ih =>
    intro k x i hx hi hk
    obtain ⟨k, rfl⟩ : ∃ q, k = q + 1 := ⟨k - 1, by omega⟩
    simp only [praxinoscopekit_OverBytes.l0]
    rw [if_pos (by omega), if_pos (by omega), w64 _ (by omega) (by omega), show ((i : Int) + 1) = ((i + 1 : Nat) : Int) from by omega]
    exact ih k _ (i + 1) (by simpa using hx) (by simp; omega) (by omega)
theorem over_f (l : List Int) (h : l.length ≤ 1000000) (k : Nat) (hk : l.length < k) : ∃ r, praxinoscopekit_OverBytes.f k l = some r :=
  over_loop l.length k l 0 h (by omega) hk

end Go.Proofs.Ytjbpcffmeaadeaa.Pl
