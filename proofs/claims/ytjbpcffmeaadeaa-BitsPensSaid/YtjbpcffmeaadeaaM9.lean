import Derived.Test.YtjbpcffmeaadeaaM2
/- Plain laws of chapter 01: numbers read at a place; what Find answers, by the places where a start code stands. -/
namespace Go.Proofs.Ytjbpcffmeaadeaa.Pp
open Go.RowKit Go.Proofs.Ytjbpcffmeaadeaa.Pr Go.Proofs.YtjbpcffmeaadeaaW.PrintWords Go.Proofs.YtjbpcffmeaadeaaW.PrintLast Go.Proofs.YtjbpcffmeaadeaaW.PrintMore

theorem readP_in (b : List Int) (i m : Nat) (hm : m ≤ 32) (h : i + m ≤ 8 * b.length) : Pr.readP b (i : Int) (m : Int) = (numB b i m, 0) := by
  unfold Pr.readP
  rw [if_neg (by omega), if_neg (by omega), show ((i : Int)).toNat = i from by omega, show ((m : Int)).toNat = m from by omega]
theorem readP_short (b : List Int) (i m : Nat) (hm : m ≤ 32) (h : 8 * b.length < i + m) : Pr.readP b (i : Int) (m : Int) = (0, 5) := by
  unfold Pr.readP
  rw [if_neg (by omega), if_pos (by omega)]
theorem readP_in1 (b : List Int) (i : Nat) (h : i + 1 ≤ 8 * b.length) : Pr.readP b (i : Int) 1 = (bitB b i, 0) := by
  have := readP_in b i 1 (by omega) h
  rw [show ((1 : Nat) : Int) = 1 from rfl] at this
  rw [this]; simp [numB]
theorem pick_eq (a n : Int) (hn : 0 < n) (h : n ≤ 1000000) : ∃ r, praxinoscopekit_Pick.f a n = some r ∧ 0 ≤ r ∧ r < n := by
  unfold praxinoscopekit_Pick.f
  have h1 := Int.tmod_lt_of_pos a hn
  have h2 := Int.lt_tmod_of_pos a hn
  rw [if_neg (by omega), if_neg (by omega)]
  by_cases hz : Int.tmod a n < 0
  · rw [if_pos hz, w64 _ (by omega) (by omega)]; exact ⟨_, rfl, by omega, by omega⟩
  · rw [if_neg hz]; exact ⟨_, rfl, by omega, by omega⟩

theorem numB_zero (l : List Int) (i n : Nat) : numB l i n = 0 ↔ ∀ j, j < n → bitB l (i + j) = 0 := by
  induction n with
  | zero => simp [numB]
  | succ n ih =>
    have hb := bitB_01 l (i + n)
    have hr := numB_range l i n
    simp only [numB]
    constructor
    · intro h j hj
      by_cases h1 : j = n
      · subst h1; omega
      · exact ih.1 (by omega) j (by omega)
    · intro h
      have h1 := ih.2 (fun j hj => h j (by omega))
      have h2 := h n (by omega)
      omega

/-- A start code stands at a place. -/
def Code16 (l : List Int) (p : Nat) : Prop := p + 16 ≤ 8 * l.length ∧ (∀ j, j < 15 → bitB l (p + j) = 0) ∧ bitB l (p + 15) = 1
theorem code16_num (l : List Int) (p : Nat) (h : p + 16 ≤ 8 * l.length) : numB l p 16 = 1 ↔ Code16 l p := by
  have hb := bitB_01 l (p + 15)
  have hr := numB_range l p 15
  have hz := numB_zero l p 15
  have e : numB l p 16 = 2 * numB l p 15 + bitB l (p + 15) := rfl
  rw [e]
  constructor
  · intro h1
    exact ⟨h, hz.1 (by omega), by omega⟩
  · rintro ⟨_, h2, h3⟩
    have := hz.2 h2
    omega
theorem reads_eq (l : List Int) (hl : OkB l) (a n x e : Int) (k : Nat) (hk : 40 ≤ k) : praxinoscopelaw01_reads.f k l a n x e = some (decide (readP l a n = (x, e))) := by
  unfold praxinoscopelaw01_reads.f
  rw [bits_Read_eq l hl a n k hk, Option.bind_some]
  obtain ⟨y, f⟩ := readP l a n
  by_cases h1 : y = x
  · rw [if_pos h1]
    by_cases h2 : f = e
    · subst h1; subst h2; simp
    · subst h1; simp [h2]
  · rw [if_neg h1]; simp [h1]
theorem code_eq (l : List Int) (hl : OkB l) (p : Nat) (k : Nat) (hk : 40 ≤ k) (b : Bool) (hb : b = true ↔ Code16 l p) : praxinoscopelaw01_code.f k l (p : Int) = some b := by
  unfold praxinoscopelaw01_code.f
  rw [reads_eq l hl _ _ _ _ k hk, Option.bind_some]
  congr 1
  by_cases h : p + 16 ≤ 8 * l.length
  · have := readP_in l p 16 (by omega) h
    rw [show ((16 : Nat) : Int) = 16 from rfl] at this
    rw [this, Bool.eq_iff_iff, decide_eq_true_iff, hb, ← code16_num l p h]
    simp
  · have := readP_short l p 16 (by omega) (by omega)
    rw [show ((16 : Nat) : Int) = 16 from rfl] at this
    rw [this, Bool.eq_iff_iff, decide_eq_true_iff, hb]
    constructor
    · intro h1; simp at h1
    · intro h1; exact absurd h1.1 h

theorem find_spec (l : List Int) (a : Nat) : ∀ (d i run : Nat), i + d = 8 * l.length → a + run ≤ i → (∀ j, i ≤ j + run → j < i → bitB l j = 0) → (∀ p, a ≤ p → p + 15 < i → ¬ Code16 l p) → (a + run = i ∨ bitB l (i - run - 1) = 1) →
    (findP l d i run = (0, 5) ∧ ∀ p, a ≤ p → ¬ Code16 l p) ∨ ∃ x : Nat, findP l d i run = ((x : Int), 0) ∧ a ≤ x ∧ Code16 l x ∧ ∀ p, a ≤ p → p < x → ¬ Code16 l p
  | 0, i, run, hi, _, _, hn, _ => by
    refine .inl ⟨rfl, fun p hp hc => ?_⟩
    exact hn p hp (by have := hc.1; omega) hc
  | d + 1, i, run, hi, hr, hz, hn, hm => by
    simp only [findP]
    by_cases h0 : bitB l i = 0
    · rw [if_pos h0]
      refine find_spec l a d (i + 1) (run + 1) (by omega) (by omega) (fun j h1 h2 => ?_) (fun p h1 h2 hc => ?_) ?_
      · by_cases hj : j = i
        · subst hj; exact h0
        · exact hz j (by omega) (by omega)
      · by_cases hp : p + 15 = i
        · have := hc.2.2; rw [hp] at this; omega
        · exact hn p h1 (by omega) hc
      · rcases hm with h | h
        · exact .inl (by omega)
        · exact .inr (by rw [show i + 1 - (run + 1) - 1 = i - run - 1 from by omega]; exact h)
    · rw [if_neg h0]
      have hb := bitB_01 l i
      by_cases h15 : 15 ≤ run
      · rw [if_pos h15]
        refine .inr ⟨i - 15, by rw [show ((i - 15 : Nat) : Int) = (i : Int) - 15 from by omega], by omega, ⟨by omega, fun j hj => hz _ (by omega) (by omega), ?_⟩, fun p h1 h2 => hn p h1 (by omega)⟩
        rw [show i - 15 + 15 = i from by omega]; omega
      · rw [if_neg h15]
        refine find_spec l a d (i + 1) 0 (by omega) (by omega) (fun j h1 h2 => by omega) (fun p h1 h2 hc => ?_) (.inr (by rw [show i + 1 - 0 - 1 = i from by omega]; omega))
        by_cases hp : p + 15 = i
        · rcases hm with h | h
          · omega
          · have := hc.2.1 (i - run - 1 - p) (by omega)
            rw [show p + (i - run - 1 - p) = i - run - 1 from by omega] at this
            omega
        · exact hn p h1 (by omega) hc
/-- What Find answers from a place on. -/
theorem find_eq (l : List Int) (hl : OkB l) (a : Nat) (ha : (a : Int) ≤ 9223372036854775807) :
    (bits_Find.f l (a : Int) = some (0, 5) ∧ ∀ p, a ≤ p → ¬ Code16 l p) ∨ ∃ x : Nat, bits_Find.f l (a : Int) = some ((x : Int), 0) ∧ a ≤ x ∧ Code16 l x ∧ ∀ p, a ≤ p → p < x → ¬ Code16 l p := by
  unfold bits_Find.f
  rw [if_pos ⟨hl, by unfold in64; omega⟩, if_neg (by omega), show ((a : Int)).toNat = a from by omega]
  by_cases h : a ≤ 8 * l.length
  · rcases find_spec l a (8 * l.length - a) a 0 (by omega) (by omega) (fun j h1 h2 => by omega) (fun p h1 h2 => by omega) (.inl (by omega)) with ⟨h1, h2⟩ | ⟨x, h1, h2⟩
    · exact .inl ⟨by rw [h1], h2⟩
    · exact .inr ⟨x, by rw [h1], h2⟩
  · refine .inl ⟨by rw [show 8 * l.length - a = 0 from by omega]; rfl, fun p hp hc => ?_⟩
    have := hc.1; omega
end Go.Proofs.Ytjbpcffmeaadeaa.Pp
