import Derived.Test.YtjbpcffmeaadeaaM1
/- Plain law: what Long answers of acts. -/
namespace Go.Proofs.Ytjbpcffmeaadeaa.Pp
open Go.RowKit Go.Proofs.Ytjbpcffmeaadeaa.Pr Go.Proofs.YtjbpcffmeaadeaaW.PrintWords Go.Proofs.YtjbpcffmeaadeaaW.PrintLast Go.Proofs.YtjbpcffmeaadeaaW.PrintMore

theorem long_loop (l : List S67) (hl : l.length ≤ 9223372036854775807) (m : Nat) : ∀ (k i : Nat), i + m = 61 → 2 * m + 3 ≤ k → (∀ j, j < i → j < l.length → ((l.getD j z67).f3.size : Int) ≤ 100) →
    ∃ r, praxinoscopelaw01_Long.l0 k l (i : Int) = some r ∧ (r = true ∨ r = false ∧ l.length ≤ 60 ∧ ∀ j, j < l.length → (l.getD j z67).f3.size ≤ 100) := by
  induction m with
  | zero =>
    intro k i hi hk hj
    obtain ⟨k, rfl⟩ : ∃ q, k = q + 2 := ⟨k - 2, by omega⟩
    simp only [praxinoscopelaw01_Long.l0, praxinoscopelaw01_Long.j1]
    have hd : decide ((i : Int) < 61) = false := decide_eq_false (by omega)
    by_cases h1 : (i : Int) < (l.length : Int)
    · rw [if_pos h1, hd, if_neg (by decide)]
      exact ⟨_, rfl, .inl (decide_eq_true (by omega))⟩
    · rw [if_neg h1, if_neg (by decide)]
      by_cases h2 : (l.length : Int) > 60
      · exact ⟨_, rfl, .inl (decide_eq_true h2)⟩
      · exact ⟨_, rfl, .inr ⟨decide_eq_false h2, by omega, fun j h => by have := hj j (by omega) h; omega⟩⟩
  | succ m ih =>
    intro k i hi hk hj
    obtain ⟨k, rfl⟩ : ∃ q, k = q + 2 := ⟨k - 2, by omega⟩
    simp only [praxinoscopelaw01_Long.l0, praxinoscopelaw01_Long.j1]
    have hd : decide ((i : Int) < 61) = true := decide_eq_true (by omega)
    by_cases h1 : (i : Int) < (l.length : Int)
    · rw [if_pos h1, hd, if_pos rfl, if_pos (by omega), if_pos h1]
      have e : rd_T67 l (i : Int) = l.getD i z67 := by unfold rd_T67; rw [show ((i : Int)).toNat = i from by omega]
      rw [e]
      by_cases h2 : ((l.getD i z67).f3.size : Int) > 100
      · rw [if_pos h2]; exact ⟨_, rfl, .inl rfl⟩
      · rw [if_neg h2, w64 _ (by omega) (by omega), show ((i : Int) + 1) = ((i + 1 : Nat) : Int) from by omega]
        refine ih k (i + 1) (by omega) (by omega) (fun j h3 h4 => ?_)
        by_cases h5 : j = i
        · subst h5; omega
        · exact hj j (by omega) h4
    · rw [if_neg h1, if_neg (by decide)]
      by_cases h2 : (l.length : Int) > 60
      · exact ⟨_, rfl, .inl (decide_eq_true h2)⟩
      · exact ⟨_, rfl, .inr ⟨decide_eq_false h2, by omega, fun j h => by have := hj j (by omega) h; omega⟩⟩
/-- Long answers; and where it answers no, the acts are few and their texts are short. -/
theorem long_f (l : List S67) (hl : l.length ≤ 9223372036854775807) : ∃ r, praxinoscopelaw01_Long.f 200 l = some r ∧ (r = true ∨ r = false ∧ l.length ≤ 60 ∧ ∀ j, j < l.length → (l.getD j z67).f3.size ≤ 100) :=
  long_loop l hl 61 200 0 rfl (by decide) (fun j h => by omega)
end Go.Proofs.Ytjbpcffmeaadeaa.Pp
