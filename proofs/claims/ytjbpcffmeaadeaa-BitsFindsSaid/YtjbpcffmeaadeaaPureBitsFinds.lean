import Derived.Test.YtjbpcffmeaadeaaTopB1
import Derived.Test.YtjbpcffmeaadeaaM9
/- The plain law of BitsFinds. -/
namespace Go.Proofs.Ytjbpcffmeaadeaa.Pure
open Go.RowKit Go.Proofs.Ytjbpcffmeaadeaa.Pr Go.Proofs.Ytjbpcffmeaadeaa.Pp Go.Proofs.YtjbpcffmeaadeaaW.PrintWords Go.Proofs.YtjbpcffmeaadeaaW.PrintLast

theorem finds_loop (l : List Int) (hl : OkB l) (x e : Int) (z : Nat) (hz : z ≤ 1000) (hx : e = 0 ∨ e = 5 ∧ x = 0) (m : Nat) : ∀ (k i : Nat), i + m = z → m + 45 ≤ k → (∀ p, i ≤ p → p < z → ¬ Code16 l p) →
    praxinoscopelaw01_BitsFinds.l0 k l true x e (z : Int) (i : Int) = some true := by
  induction m with
  | zero =>
    intro k i hi hk _
    obtain ⟨k, rfl⟩ : ∃ q, k = q + 1 := ⟨k - 1, by omega⟩
    simp only [praxinoscopelaw01_BitsFinds.l0]
    rw [if_neg (by omega), if_pos trivial]
    rcases hx with rfl | ⟨rfl, rfl⟩
    · rw [if_pos rfl]
    · rw [if_neg (by decide), if_pos rfl]; rfl
  | succ m ih =>
    intro k i hi hk hn
    obtain ⟨k, rfl⟩ : ∃ q, k = q + 1 := ⟨k - 1, by omega⟩
    simp only [praxinoscopelaw01_BitsFinds.l0]
    rw [if_pos (by omega), code_eq l hl i k (by omega) false ⟨fun h => (by cases h), fun h => absurd h (hn i (by omega) (by omega))⟩, Option.bind_some, if_neg (by decide), w64 _ (by omega) (by omega), show ((i : Int) + 1) = ((i + 1 : Nat) : Int) from by omega]
    exact ih k (i + 1) (by omega) (by omega) (fun p h1 h2 => hn p (by omega) h2)

theorem BitsFinds : praxinoscopelaw01_BitsFinds.Pure := by
  intro l0 a1 m0 m0' w0 w1
  have hb := OkB.of_wf m0' w0
  obtain ⟨K, hK⟩ : ∃ K : Nat, K = 1998 := ⟨_, rfl⟩
  refine ⟨K + 1 + 1, ?_⟩
  unfold praxinoscopelaw01_BitsFinds.f
  rw [show praxinoscopelaw01_BitsKnown.f = some true from rfl, Option.bind_some]
  by_cases c1 : (l0.length : Int) > 60
  · rw [if_pos c1]
  rw [if_neg c1, w64 (8 * _) (by omega) (by omega), w64 _ (by omega) (by omega)]
  obtain ⟨r, e0, r0, r1⟩ := pick_eq a1 (8 * (l0.length : Int) + 2) (by omega) (by omega)
  rw [e0, Option.bind_some]
  obtain ⟨p, rfl⟩ := Int.eq_ofNat_of_zero_le r0
  rcases find_eq l0 hb p (by omega) with ⟨h1, h2⟩ | ⟨x, h1, h2, h3, h4⟩
  · rw [h1, Option.bind_some]
    simp only []
    rw [if_neg (by decide)]
    simp only [praxinoscopelaw01_BitsFinds.j0]
    by_cases hp : p ≤ 8 * l0.length
    · rw [show (8 * (l0.length : Int)) = ((8 * l0.length : Nat) : Int) from by omega]
      exact finds_loop l0 hb 0 5 (8 * l0.length) (by omega) (.inr ⟨rfl, rfl⟩) (8 * l0.length - p) (K + 1) p (by omega) (by omega) (fun q h _ => h2 q h)
    · simp only [praxinoscopelaw01_BitsFinds.l0]
      rw [if_neg (by omega), if_pos trivial, if_neg (by decide), if_pos trivial]; rfl
  · have := h3.1
    rw [h1, Option.bind_some]
    simp only []
    rw [if_pos trivial, if_neg (by omega), code_eq l0 hb x (K + 1 + 1) (by omega) true ⟨fun _ => h3, fun _ => rfl⟩, Option.bind_some, if_pos rfl]
    simp only [praxinoscopelaw01_BitsFinds.j0]
    exact finds_loop l0 hb x 0 x (by omega) (.inl rfl) (x - p) (K + 1) p (by omega) (by omega) (fun q h5 h6 => h4 q h5 h6)

end Go.Proofs.Ytjbpcffmeaadeaa.Pure
