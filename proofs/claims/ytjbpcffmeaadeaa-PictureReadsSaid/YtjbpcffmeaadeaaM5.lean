import Derived.Test.YtjbpcffmeaadeaaM4
/- Plain laws: the reference's Get answers as picture.Get does. -/
namespace Go.Proofs.Ytjbpcffmeaadeaa.Pc
open Go.RowKit Go.Proofs.Ytjbpcffmeaadeaa.Pr Go.Proofs.YtjbpcffmeaadeaaW.PrintWords Go.Proofs.YtjbpcffmeaadeaaW.PrintLast Go.Proofs.YtjbpcffmeaadeaaW.PrintMore

theorem numB_split (l : List Int) (i m n : Nat) : numB l i (m + n) = numB l i m * 2 ^ n + numB l (i + m) n := by
  induction n with
  | zero => simp [numB]
  | succ n ih =>
    rw [← Nat.add_assoc, numB, ih, numB, Int.pow_succ, Nat.add_assoc i m n]
    generalize (2 : Int) ^ n = p
    generalize numB l i m = x
    rw [Int.mul_add, ← Int.mul_assoc x p 2, Int.mul_comm (x * p) 2]
    omega

theorem ref_spares (b : List Int) (hb : OkB b) (p : Nat) (m : Nat) : ∀ (k f : Nat) (acc : List Int) (off : Nat), acc.length + m = 32 → m + 41 ≤ k → m < f → p + off ≤ 8 * b.length →
    praxinoscoperef17_Spares.l0 k b (p : Int) acc (off : Int) = some (if (spP b f acc ((p + off : Nat) : Int) 0).2.2 = 0 then ((spP b f acc ((p + off : Nat) : Int) 0).1, (spP b f acc ((p + off : Nat) : Int) 0).2.1 - (p : Int), 0) else ([], 0, (spP b f acc ((p + off : Nat) : Int) 0).2.2)) := by
  have hb1 := hb.1
  induction m with
  | zero =>
    intro k f acc off hn hk hf hl
    obtain ⟨k, rfl⟩ : ∃ q, k = q + 1 := ⟨k - 1, by omega⟩
    simp only [praxinoscoperef17_Spares.l0]
    rw [w64 ((p : Int) + off) (by omega) (by omega), show ((p : Int) + off) = ((p + off : Nat) : Int) from by omega, ref_Read_eq b hb _ _ k (by omega), Option.bind_some]
    by_cases c1 : 8 * b.length < p + off + 1
    · rw [readP_short1 b _ c1, spP_stop (take_short1 b (p + off) c1) (by decide) f (by omega)]; simp
    rw [readP_in1 b _ (by omega)]
    simp only [if_true]
    have h1 := take_in1 b (p + off) (by omega)
    rcases bitB_01 b (p + off) with e | e
    · rw [if_pos e, spP_stop h1 (by omega) f (by omega), w64 _ (by omega) (by omega)]
      simp only [if_true]
      congr 3
      omega
    · rw [e] at h1
      rw [if_neg (by omega), if_pos (by omega), spP_long h1 (by omega) f (by omega)]; simp
  | succ m ih =>
    intro k f acc off hn hk hf hl
    obtain ⟨k, rfl⟩ : ∃ q, k = q + 1 := ⟨k - 1, by omega⟩
    simp only [praxinoscoperef17_Spares.l0]
    rw [w64 ((p : Int) + off) (by omega) (by omega), show ((p : Int) + off) = ((p + off : Nat) : Int) from by omega, ref_Read_eq b hb _ _ k (by omega), Option.bind_some]
    by_cases c1 : 8 * b.length < p + off + 1
    · rw [readP_short1 b _ c1, spP_stop (take_short1 b (p + off) c1) (by decide) f (by omega)]; simp
    rw [readP_in1 b _ (by omega)]
    simp only [if_true]
    have h1 := take_in1 b (p + off) (by omega)
    rcases bitB_01 b (p + off) with e | e
    · rw [if_pos e, spP_stop h1 (by omega) f (by omega), w64 _ (by omega) (by omega)]
      simp only [if_true]
      congr 3
      omega
    · rw [e] at h1
      rw [if_neg (by omega), if_neg (by omega), w64 (((p + off : Nat) : Int) + 1) (by omega) (by omega), show (((p + off : Nat) : Int) + 1) = ((p + off + 1 : Nat) : Int) from by omega, ref_Read_eq b hb _ _ k (by omega), Option.bind_some]
      by_cases c2 : 8 * b.length < p + off + 1 + 8
      · have := readP_short b (p + off + 1) 8 (by omega) c2
        rw [show ((8 : Nat) : Int) = 8 from rfl] at this
        rw [this, spP_bad h1 (by omega) (take_short8 b (p + off + 1) c2) (by decide) f (by omega)]; simp
      have h8 := readP_in b (p + off + 1) 8 (by omega) (by omega)
      rw [show ((8 : Nat) : Int) = 8 from rfl] at h8
      have hr := numB_range b (p + off + 1) 8
      obtain ⟨f, rfl⟩ : ∃ q, f = q + 1 := ⟨f - 1, by omega⟩
      rw [h8]
      simp only [if_true]
      rw [if_pos (by omega), w64 ((off : Int) + 9) (by omega) (by omega), show ((off : Int) + 9) = ((off + 9 : Nat) : Int) from by omega, Int.emod_eq_of_lt hr.1 (by omega),
        spP_more h1 (by omega) (take_in8 b (p + off + 1) (by omega)), ih k f (acc ++ [numB b (p + off + 1) 8]) (off + 9) (by simp; omega) (by omega) (by omega) (by omega)]
      rw [show p + (off + 9) = p + off + 1 + 8 from by omega]

theorem getP_far (b : List Int) (a : Int) (ha : 0 ≤ a) (h : 8 * (b.length : Int) < a + 5) : getP b a = (0, 0, [], 0, 5) := by
  have t1 : takeP b a 0 5 = (0, a, 5) := by
    unfold takeP
    have : readP b a 5 = (0, 5) := by
      unfold readP
      rw [if_neg (by omega), if_pos (by omega)]
    rw [if_neg (by simp), this]; simp
  rw [getP_of ha t1 (take_bad b _ 5 6 (by decide)) (spP_stop (take_bad b _ 5 1 (by decide)) (by decide) 34 (by decide))]
  simp

/-- The reference's Get. -/
theorem ref_Get_eq (b : List Int) (hb : OkB b) (a : Int) (ha : in64 a) (k : Nat) (hk : 80 ≤ k) : praxinoscoperef17_Get.f k b a = some (getP b a) := by
  have hb1 := hb.1
  obtain ⟨ha0, ha1⟩ := ha
  unfold praxinoscoperef17_Get.f
  by_cases h0 : a < 0
  · rw [if_pos h0]; unfold getP; rw [if_pos h0]
  rw [if_neg h0, ref_count_eq b hb, Option.bind_some]
  by_cases h1 : a > 8 * (b.length : Int)
  · rw [if_pos h1, getP_far b a (by omega) (by omega)]
  rw [if_neg h1]
  obtain ⟨p, rfl⟩ := Int.eq_ofNat_of_zero_le (show 0 ≤ a by omega)
  rw [ref_Read_eq b hb _ _ k (by omega), Option.bind_some]
  by_cases c1 : 8 * b.length < p + 5
  · have := readP_short b p 11 (by omega) (by omega)
    rw [show ((11 : Nat) : Int) = 11 from rfl] at this
    rw [this, getP_far b p (by omega) (by omega)]; simp
  have t1 := take_in b p 5 (by omega) (by omega)
  rw [show ((5 : Nat) : Int) = 5 from rfl] at t1
  by_cases c2 : 8 * b.length < p + 5 + 6
  · have := readP_short b p 11 (by omega) (by omega)
    rw [show ((11 : Nat) : Int) = 11 from rfl] at this
    have t2 := take_short b (p + 5) 6 (by omega) c2
    rw [show ((6 : Nat) : Int) = 6 from rfl] at t2
    rw [this, getP_of (by omega) t1 t2 (spP_stop (take_bad b _ 5 1 (by decide)) (by decide) 34 (by decide))]; simp
  have t2 := take_in b (p + 5) 6 (by omega) (by omega)
  rw [show ((6 : Nat) : Int) = 6 from rfl] at t2
  have h11 := readP_in b p 11 (by omega) (by omega)
  rw [show ((11 : Nat) : Int) = 11 from rfl] at h11
  have hs := numB_split b p 5 6
  have r1 := numB_range b p 5
  have r2 := numB_range b (p + 5) 6
  rw [h11, show (11 : Nat) = 5 + 6 from rfl, hs]
  simp only [if_true]
  unfold praxinoscoperef17_Spares.f
  rw [w64 ((p : Int) + 11) (by omega) (by omega), show ((p : Int) + 11) = ((p + 11 : Nat) : Int) from by omega]
  have hsp := ref_spares b hb (p + 11) 32 k 34 [] 0 (by simp) (by omega) (by omega) (by omega)
  rw [show ((0 : Nat) : Int) = 0 from rfl, Nat.add_zero] at hsp
  rw [hsp, Option.bind_some]
  obtain ⟨s, a3, b3, h3⟩ : ∃ s a3 b3, spP b 34 [] ((p + 11 : Nat) : Int) 0 = (s, a3, b3) := ⟨_, _, _, rfl⟩
  rw [getP_of (by omega) t1 t2 (show spP b 34 [] ((p + 5 + 6 : Nat) : Int) 0 = (s, a3, b3) from h3), h3]
  simp only []
  by_cases hz : b3 = 0
  · simp only [hz, if_true]
    rw [Int.tdiv_eq_ediv_of_nonneg (by omega), Int.tmod_eq_emod_of_nonneg (by omega), i64_w]
    rw [w64 (_ / 64) (by omega) (by omega)]
    have e1 : (numB b p 5 * 2 ^ 6 + numB b (p + 5) 6) / 64 = numB b p 5 := by omega
    have e2 : (numB b p 5 * 2 ^ 6 + numB b (p + 5) 6) % 64 = numB b (p + 5) 6 := by omega
    rw [e1, e2]
    rw [show (11 + (a3 - ((p + 11 : Nat) : Int))) = a3 - (p : Int) from by omega]
  · simp only [if_neg hz]
end Go.Proofs.Ytjbpcffmeaadeaa.Pc
