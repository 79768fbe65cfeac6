import Derived.Test.YtjbpcffmeaadeaaMD
import Derived.Test.YtjbpcffmeaadeaaM3
/- Plain laws: the reference's Put, Start and Whole tell what group's do. -/
namespace Go.Proofs.Ytjbpcffmeaadeaa.Pl
open Go.RowKit Go.Proofs.Ytjbpcffmeaadeaa.Pr Go.Proofs.Ytjbpcffmeaadeaa.Pd Go.Proofs.YtjbpcffmeaadeaaW.PrintWords Go.Proofs.YtjbpcffmeaadeaaW.PrintLast Go.Proofs.YtjbpcffmeaadeaaW.PrintMore

theorem put_both (q : Int) (s : List Int) (hs : OkB s) (hn : s.length ≤ 1000) (k : Nat) (hk : 2000 ≤ k) : ∃ x e, group_Put.f k q s = some (x, e) ∧ praxinoscoperef18_Put.f k q s = some (x, e) ∧ ((e = 0 ∧ x.size ≤ 10000) ∨ e ≠ 0) := by
  obtain ⟨k, rfl⟩ : ∃ j, k = j + 1 := ⟨k - 1, by omega⟩
  by_cases h : q < 1 ∨ 31 < q ∨ 32 < s.length
  · refine ⟨⟨#[]⟩, 2, group_Put_no q s h (k + 1) (by omega), ?_, .inr (by decide)⟩
    unfold praxinoscoperef18_Put.f
    by_cases h1 : q < 1
    · rw [if_pos h1]; simp [praxinoscoperef18_Put.j0]
    by_cases h2 : q > 31
    · rw [if_neg h1, if_pos h2]; simp [praxinoscoperef18_Put.j0]
    rw [if_neg h1, if_neg h2, decide_eq_true (by omega)]; simp [praxinoscoperef18_Put.j0]
  · refine ⟨_, _, group_Put_eq q s (by omega) (by omega) hs (by omega) (k + 1) (by omega), ?_, .inl ⟨rfl, by rw [ba_size, putL_length]; omega⟩⟩
    unfold praxinoscoperef18_Put.f
    rw [if_neg (by omega), if_neg (by omega), decide_eq_false (by omega)]
    simp only [praxinoscoperef18_Put.j0]
    have e5 := ref_Digits q 5 (by omega) (by omega) k (by omega)
    rw [show ((5 : Nat) : Int) = 5 from rfl] at e5
    rw [if_neg (by decide), e5, Option.bind_some, ref_Spare s hs (by omega) k (by omega), Option.bind_some, ba_size, ba_size, digs_length]
    have hsp : (sp s ++ [48]).length ≤ 100000 := by
      have : sp s = spares s := rfl
      rw [this, List.length_append, spares_length, List.length_singleton]; omega
    rw [if_pos (by omega), ba_app]
    rfl

theorem start_both (p : Int) (k : Nat) (hk : 2000 ≤ k) : ∃ x e, group_Start.f k p = some (x, e) ∧ praxinoscoperef18_Start.f k p = some (x, e) ∧ ((0 ≤ p ∧ p ≤ 15 ∧ e = 0 ∧ x.size ≤ 10000) ∨ ((p < 0 ∨ 15 < p) ∧ e = 3 ∧ x = ⟨#[]⟩)) := by
  obtain ⟨k, rfl⟩ : ∃ j, k = j + 1 := ⟨k - 1, by omega⟩
  unfold praxinoscoperef18_Start.f
  by_cases h1 : p < 0
  · refine ⟨⟨#[]⟩, 3, ?_, by rw [if_pos h1], .inr ⟨.inl h1, rfl, rfl⟩⟩
    unfold group_Start.f; rw [if_pos h1]; simp [group_Start.j0]
  by_cases h2 : p > 15
  · refine ⟨⟨#[]⟩, 3, ?_, by rw [if_neg h1, if_pos h2], .inr ⟨.inr h2, rfl, rfl⟩⟩
    unfold group_Start.f; rw [if_neg h1, decide_eq_true h2]; simp [group_Start.j0]
  · refine ⟨_, _, group_Start_eq p (by omega) (by omega) (k + 1) (by omega), ?_, .inl ⟨by omega, by omega, rfl, by rw [ba_size, startL_length]; omega⟩⟩
    have e4 := ref_Digits p 4 (by omega) (by omega) (k + 1) (by omega)
    rw [show ((4 : Nat) : Int) = 4 from rfl] at e4
    rw [if_neg h1, if_neg h2, e4, Option.bind_some, ba_size, digs_length, if_pos (by omega)]
    rw [show (⟨#[48, 48, 48, 48, 48, 48, 48, 48, 48, 48, 48, 48, 48, 48, 48, 49]⟩ : ByteArray) = ⟨(digs 1 16).toArray⟩ from by decide +kernel, ba_app]
    rfl

theorem whole_both (p q : Int) (s : List Int) (hs : OkB s) (hn : s.length ≤ 1000) (k : Nat) (hk : 2001 ≤ k) : ∃ x e, group_Whole.f k p q s = some (x, e) ∧ praxinoscoperef18_Whole.f k p q s = some (x, e) := by
  obtain ⟨k, rfl⟩ : ∃ j, k = j + 1 := ⟨k - 1, by omega⟩
  unfold group_Whole.f praxinoscoperef18_Whole.f
  by_cases h0 : p = 0
  · subst h0
    rw [if_pos rfl, if_pos (by decide)]
    exact ⟨_, _, rfl, by simp [praxinoscoperef18_Whole.j0]⟩
  rw [if_neg h0]
  obtain ⟨x, e, g1, g2, g3⟩ := start_both p (k + 1) (by omega)
  obtain ⟨x', e', g1', g2', g3'⟩ := start_both p k (by omega)
  have hee := praxinoscoperef18_Start.mono p k _ g2'
  rw [g2] at hee
  obtain ⟨rfl, rfl⟩ : x = x' ∧ e = e' := by simpa using hee
  rw [g1, Option.bind_some]
  rcases g3 with ⟨p0, p1, rfl, hx⟩ | ⟨hp, rfl, rfl⟩
  · simp only [if_true]
    rw [if_neg (show ¬ p < 1 by omega), decide_eq_false (show ¬ p > 15 by omega)]
    simp only [praxinoscoperef18_Whole.j0]
    obtain ⟨y, f, f1, f2, f3⟩ := put_both q s hs hn (k + 1) (by omega)
    obtain ⟨y', f', f1', f2', f3'⟩ := put_both q s hs hn k (by omega)
    have hff := praxinoscoperef18_Put.mono q s k _ f2'
    rw [f2] at hff
    obtain ⟨rfl, rfl⟩ : y = y' ∧ f = f' := by simpa using hff
    rw [if_neg (show ¬ (false = true) by decide), f1, f2', Option.bind_some, Option.bind_some]
    rcases f3 with ⟨rfl, hy⟩ | hf
    · simp only [if_true]
      rw [g2', Option.bind_some, if_pos (by omega)]
      exact ⟨_, _, rfl, rfl⟩
    · simp only [if_neg hf]
      exact ⟨_, _, rfl, rfl⟩
  · rw [if_neg (show ¬ ((3 : Int) = 0) by decide)]
    refine ⟨_, _, rfl, ?_⟩
    by_cases h1 : p < 1
    · rw [if_pos h1]; simp [praxinoscoperef18_Whole.j0]
    · rw [if_neg h1, decide_eq_true (by omega)]; simp [praxinoscoperef18_Whole.j0]
end Go.Proofs.Ytjbpcffmeaadeaa.Pl
