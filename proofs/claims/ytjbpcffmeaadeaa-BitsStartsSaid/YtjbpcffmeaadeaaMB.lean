import Derived.Test.YtjbpcffmeaadeaaM9
import Derived.Test.YtjbpcffmeaadeaaH17
/- Plain law of BitsStarts; the walk and the law, joined. -/
namespace Go.Proofs.Ytjbpcffmeaadeaa.Pp
open Go.RowKit Go.Proofs.Ytjbpcffmeaadeaa.Pr Go.Proofs.YtjbpcffmeaadeaaW.PrintWords Go.Proofs.YtjbpcffmeaadeaaW.PrintLast Go.Proofs.YtjbpcffmeaadeaaW.PrintMore

theorem bl_getD (l : List Int) (a n t : Nat) (h : t < n) : (bl l a n).getD t 0 = bitB l (a + t) := by
  induction n with
  | zero => omega
  | succ n ih =>
    simp only [bl]
    by_cases h1 : t < n
    · rw [List.getD_eq_getElem?_getD, List.getElem?_append_left (by rw [bl_length]; exact h1), ← List.getD_eq_getElem?_getD, ih h1]
    · obtain rfl : t = n := by omega
      rw [List.getD_eq_getElem?_getD, List.getElem?_append_right (by rw [bl_length]; omega), bl_length]
      simp
theorem numB_congr {a b : List Int} {i j : Nat} (n : Nat) (h : ∀ t, t < n → bitB a (i + t) = bitB b (j + t)) : numB a i n = numB b j n := by
  induction n with
  | zero => rfl
  | succ n ih =>
    simp only [numB]
    rw [ih (fun t ht => h t (by omega)), h n (by omega)]
theorem first_or (l : List Int) : ∀ (d a : Nat), (∃ i, a ≤ i ∧ i < a + d ∧ Noughts l a i ∧ bitB l i = 1) ∨ Noughts l a (a + d)
  | 0, a => .inr (fun j h1 h2 => by omega)
  | d + 1, a => by
    rcases bitB_01 l a with h | h
    · rcases first_or l d (a + 1) with ⟨i, h1, h2, h3, h4⟩ | h3
      · refine .inl ⟨i, by omega, by omega, fun j hj1 hj2 => ?_, h4⟩
        by_cases e : j = a
        · subst e; exact h
        · exact h3 j (by omega) hj2
      · refine .inr (fun j hj1 hj2 => ?_)
        by_cases e : j = a
        · subst e; exact h
        · exact h3 j (by omega) (by omega)
    · exact .inl ⟨a, Nat.le_refl _, by omega, fun j h1 h2 => by omega, h⟩
theorem start_f (l : List Int) (hl : OkB l) (a : Nat) (ha : (a : Int) ≤ 9223372036854775807) : bits_Start.f l (a : Int) = some (startP l (a : Int)) := by
  unfold bits_Start.f
  rw [if_pos ⟨hl, by unfold in64; omega⟩]

theorem starts_plain (l : List Int) (hl : OkB l) (h60 : l.length ≤ 60) (p : Nat) (hp : p ≤ 8 * l.length) (m : Nat) (hm : m ≤ 40) :
    ∃ (x n e q f : Int) (b1 : Bool), bits_Start.f l (p : Int) = some (x, n, e) ∧ bits_Find.f l (p : Int) = some (q, f) ∧ (e ≠ 0 → x = 0 ∧ n = 0 ∧ (e = 5 ∨ e = 7)) ∧
      (e = 0 → f = 0 ∧ 20 ≤ n ∧ n ≤ 1000 ∧ q = (p : Int) + n - 20 ∧ praxinoscopelaw01_reads.f 60 l (p : Int) (n - 5) 0 0 = some b1 ∧ (b1 = true ∨ b1 = false ∧ 37 < n) ∧ praxinoscopelaw01_reads.f 60 l ((p : Int) + n - 4) 4 x 0 = some true) ∧
      (e = 0 → ∀ bs, Packs (List.replicate m 0 ++ bl l p (8 * l.length - p)) bs → praxinoscopelaw01_starts.f bs 0 x (n + m) 0 = some true) := by
  have hfind := find_eq l hl p (by omega)
  obtain ⟨q, f, hqf⟩ : ∃ q f, bits_Find.f l (p : Int) = some (q, f) := by
    rcases hfind with ⟨h, _⟩ | ⟨x, h, _⟩
    · exact ⟨_, _, h⟩
    · exact ⟨_, _, h⟩
  have hst := start_f l hl p (by omega)
  rcases first_or l (8 * l.length - p) p with ⟨i, h1, h2, h3, h4⟩ | h3
  · have h2' : i < 8 * l.length := by omega
    rw [startP_one l p i h1 h2' h3 (by omega)] at hst
    by_cases h15 : (i : Int) - p < 15
    · rw [if_pos h15] at hst
      exact ⟨0, 0, 7, q, f, true, hst, hqf, fun _ => ⟨rfl, rfl, .inr rfl⟩, fun h => absurd h (by decide), fun h => absurd h (by decide)⟩
    rw [if_neg h15] at hst
    by_cases h5 : i + 5 ≤ 8 * l.length
    · have hrd := readP_in l (i + 1) 4 (by omega) (by omega)
      rw [show ((i + 1 : Nat) : Int) = (i : Int) + 1 from by omega, show ((4 : Nat) : Int) = 4 from rfl] at hrd
      rw [hrd] at hst
      simp only [if_true] at hst
      refine ⟨numB l (i + 1) 4, (i : Int) + 5 - p, 0, (i : Int) - 15, 0, decide ((i : Int) - p ≤ 32), hst, ?_, fun h => absurd rfl h, fun _ => ⟨rfl, by omega, by omega, by omega, ?_, ?_, ?_⟩, fun _ bs hpk => ?_⟩
      · have hc : Code16 l (i - 15) := ⟨by omega, fun j hj => h3 _ (by omega) (by omega), by rw [show i - 15 + 15 = i from by omega]; exact h4⟩
        rcases hfind with ⟨h, hn⟩ | ⟨x, h, hx1, hx2, hx3⟩
        · exact absurd hc (hn _ (by omega))
        · have hxi : x = i - 15 := by
            by_cases hlt : x < i - 15
            · have := hx2.2.2
              rw [h3 _ (by omega) (by omega)] at this
              omega
            · by_cases hgt : i - 15 < x
              · exact absurd hc (hx3 _ (by omega) hgt)
              · omega
          rw [h, hxi, show ((i - 15 : Nat) : Int) = (i : Int) - 15 from by omega]
      · rw [reads_eq l hl _ _ _ _ 60 (by omega)]
        congr 1
        by_cases h32 : (i : Int) - p ≤ 32
        · rw [decide_eq_true h32]
          have := readP_in l p (i - p) (by omega) (by omega)
          rw [show ((i - p : Nat) : Int) = (i : Int) + 5 - p - 5 from by omega] at this
          rw [this, (numB_zero l p (i - p)).2 (fun j hj => h3 _ (by omega) (by omega))]
          rfl
        · rw [decide_eq_false h32]
          refine decide_eq_false ?_
          unfold readP
          rw [if_pos (by omega)]
          simp
      · by_cases h32 : (i : Int) - p ≤ 32
        · exact .inl (decide_eq_true h32)
        · exact .inr ⟨decide_eq_false h32, by omega⟩
      · rw [show (p : Int) + ((i : Int) + 5 - p) - 4 = (i : Int) + 1 from by omega, reads_eq l hl _ _ _ _ 60 (by omega), hrd]
        simp
      · have hbl := hpk.len
        have hL : (List.replicate m (0 : Int) ++ bl l p (8 * l.length - p)).length = m + (8 * l.length - p) := by simp [bl_length]
        have hbit : ∀ t, t < 8 * l.length - p → bitB bs (m + t) = bitB l (p + t) := by
          intro t ht
          rw [hpk.bit, hL, if_pos (by omega), List.getD_eq_getElem?_getD, List.getElem?_append_right (by simp), List.length_replicate, show m + t - m = t from by omega, ← List.getD_eq_getElem?_getD]
          exact bl_getD l p _ t ht
        have hz : Noughts bs 0 (m + (i - p)) := by
          intro j _ hj
          by_cases hjm : j < m
          · rw [hpk.bit, hL, if_pos (by omega), List.getD_eq_getElem?_getD, List.getElem?_append_left (by simpa using hjm)]
            simp [hjm]
          · rw [show j = m + (j - m) from by omega, hbit _ (by omega)]
            exact h3 _ (by omega) (by omega)
        rw [hL] at hbl
        have h1b : bitB bs (m + (i - p)) = 1 := by rw [hbit _ (by omega), show p + (i - p) = i from by omega]; exact h4
        have hs0 := start_f bs hpk.ok 0 (by decide)
        rw [startP_one bs 0 (m + (i - p)) (by omega) (by omega) hz (by omega), if_neg (by omega)] at hs0
        have hrd2 := readP_in bs (m + (i - p) + 1) 4 (by omega) (by omega)
        rw [show ((m + (i - p) + 1 : Nat) : Int) = ((m + (i - p) : Nat) : Int) + 1 from by omega, show ((4 : Nat) : Int) = 4 from rfl,
          numB_congr (b := l) (j := i + 1) 4 (fun t ht => by rw [show m + (i - p) + 1 + t = m + (i - p + 1 + t) from by omega, hbit _ (by omega), show p + (i - p + 1 + t) = i + 1 + t from by omega])] at hrd2
        rw [hrd2] at hs0
        simp only [if_true] at hs0
        unfold praxinoscopelaw01_starts.f
        rw [show ((0 : Nat) : Int) = 0 from rfl] at hs0
        rw [hs0, Option.bind_some]
        simp only [if_true]
        rw [if_pos (by omega)]
        rfl
    · have hrd := readP_short l (i + 1) 4 (by omega) (by omega)
      rw [show ((i + 1 : Nat) : Int) = (i : Int) + 1 from by omega, show ((4 : Nat) : Int) = 4 from rfl] at hrd
      rw [hrd] at hst
      simp only [] at hst
      rw [if_neg (by decide)] at hst
      exact ⟨0, 0, 5, q, f, true, hst, hqf, fun _ => ⟨rfl, rfl, .inl rfl⟩, fun h => absurd h (by decide), fun h => absurd h (by decide)⟩
  · rw [startP_none l p (8 * l.length) (Nat.le_refl _) (by rw [show p + (8 * l.length - p) = 8 * l.length from by omega] at h3; exact h3)] at hst
    exact ⟨0, 0, 5, q, f, true, hst, hqf, fun _ => ⟨rfl, rfl, .inl rfl⟩, fun h => absurd h (by decide), fun h => absurd h (by decide)⟩
end Go.Proofs.Ytjbpcffmeaadeaa.Pp
