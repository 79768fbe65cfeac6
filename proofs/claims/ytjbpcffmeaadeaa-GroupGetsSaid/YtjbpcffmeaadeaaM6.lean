import Derived.Test.YtjbpcffmeaadeaaM3
/- Plain laws: the reference's Get, Start and Open answer as group's and bits's do. -/
namespace Go.Proofs.Ytjbpcffmeaadeaa.Pl
open Go.RowKit Go.Proofs.Ytjbpcffmeaadeaa.Pr Go.Proofs.YtjbpcffmeaadeaaW.PrintWords Go.Proofs.YtjbpcffmeaadeaaW.PrintLast Go.Proofs.YtjbpcffmeaadeaaW.PrintMore

theorem spares_both (b : List Int) (hb : OkB b) (a : Nat) (c : Int) (m : Nat) : ∀ (k : Nat) (acc : List Int) (off : Nat), acc.length + m = 32 → m + 41 ≤ k → a + 5 + off ≤ 8 * b.length →
    ∃ r, praxinoscoperef17_Spares.l0 k b ((a + 5 : Nat) : Int) acc (off : Int) = some r ∧ group_Get.l0 k b (a : Int) c acc ((5 + off : Nat) : Int) = some (if r.2.2 = 0 then (c, r.1, 5 + r.2.1, 0) else (0, [], 0, r.2.2)) ∧ 0 ≤ r.2.1 ∧ r.2.1 ≤ 8 * (b.length : Int) ∧ r.1.length ≤ 32 := by
  have hb1 := hb.1
  induction m with
  | zero =>
    intro k acc off hn hk hl
    obtain ⟨k, rfl⟩ : ∃ q, k = q + 1 := ⟨k - 1, by omega⟩
    simp only [praxinoscoperef17_Spares.l0, group_Get.l0]
    rw [w64 (((a + 5 : Nat) : Int) + off) (by omega) (by omega), show (((a + 5 : Nat) : Int) + off) = ((a + 5 + off : Nat) : Int) from by omega, w64 ((a : Int) + ((5 + off : Nat) : Int)) (by omega) (by omega), show ((a : Int) + ((5 + off : Nat) : Int)) = ((a + 5 + off : Nat) : Int) from by omega,
      ref_Read_eq b hb _ _ k (by omega), bits_Read_eq b hb _ _ k (by omega), Option.bind_some, Option.bind_some]
    by_cases c1 : 8 * b.length < a + 5 + off + 1
    · rw [readP_short1 b _ c1]; exact ⟨([], 0, 5), by simp, by simp, by decide, by simp; omega, by simp⟩
    rw [readP_in1 b _ (by omega)]
    simp only [if_true]
    rcases bitB_01 b (a + 5 + off) with e | e
    · rw [if_pos e, if_pos e, w64 _ (by omega) (by omega), w64 _ (by omega) (by omega)]
      exact ⟨_, rfl, by simp only [if_true]; congr 4 <;> omega, by simp only []; omega, by simp only []; omega, by simp only []; omega⟩
    · rw [if_neg (by omega), if_pos (by omega), if_neg (by omega), if_pos (by omega)]
      exact ⟨_, rfl, by simp, by decide, by simp; omega, by simp⟩
  | succ m ih =>
    intro k acc off hn hk hl
    obtain ⟨k, rfl⟩ : ∃ q, k = q + 1 := ⟨k - 1, by omega⟩
    simp only [praxinoscoperef17_Spares.l0, group_Get.l0]
    rw [w64 (((a + 5 : Nat) : Int) + off) (by omega) (by omega), show (((a + 5 : Nat) : Int) + off) = ((a + 5 + off : Nat) : Int) from by omega, w64 ((a : Int) + ((5 + off : Nat) : Int)) (by omega) (by omega), show ((a : Int) + ((5 + off : Nat) : Int)) = ((a + 5 + off : Nat) : Int) from by omega,
      ref_Read_eq b hb _ _ k (by omega), bits_Read_eq b hb _ _ k (by omega), Option.bind_some, Option.bind_some]
    by_cases c1 : 8 * b.length < a + 5 + off + 1
    · rw [readP_short1 b _ c1]; exact ⟨([], 0, 5), by simp, by simp, by decide, by simp; omega, by simp⟩
    rw [readP_in1 b _ (by omega)]
    simp only [if_true]
    rcases bitB_01 b (a + 5 + off) with e | e
    · rw [if_pos e, if_pos e, w64 _ (by omega) (by omega), w64 _ (by omega) (by omega)]
      exact ⟨_, rfl, by simp only [if_true]; congr 4 <;> omega, by simp only []; omega, by simp only []; omega, by simp only []; omega⟩
    · rw [if_neg (by omega), if_neg (by omega), if_neg (by omega), if_neg (by omega), w64 (((a + 5 + off : Nat) : Int) + 1) (by omega) (by omega), show (((a + 5 + off : Nat) : Int) + 1) = ((a + 5 + off + 1 : Nat) : Int) from by omega,
        ref_Read_eq b hb _ _ k (by omega), bits_Read_eq b hb _ _ k (by omega), Option.bind_some, Option.bind_some]
      by_cases c2 : 8 * b.length < a + 5 + off + 1 + 8
      · have := readP_short b (a + 5 + off + 1) 8 (by omega) c2
        rw [show ((8 : Nat) : Int) = 8 from rfl] at this
        rw [this]; exact ⟨([], 0, 5), by simp, by simp, by decide, by simp; omega, by simp⟩
      have h8 := readP_in b (a + 5 + off + 1) 8 (by omega) (by omega)
      rw [show ((8 : Nat) : Int) = 8 from rfl] at h8
      rw [h8]
      simp only [if_true]
      rw [if_pos (by omega), if_pos (by omega), w64 ((off : Int) + 9) (by omega) (by omega), w64 (((5 + off : Nat) : Int) + 9) (by omega) (by omega), show ((off : Int) + 9) = ((off + 9 : Nat) : Int) from by omega, show (((5 + off : Nat) : Int) + 9) = ((5 + (off + 9) : Nat) : Int) from by omega]
      exact ih k _ (off + 9) (by simp; omega) (by omega) (by omega)

/-- Both Gets answer alike. -/
theorem get_both (b : List Int) (hb : OkB b) (a : Int) (ha : in64 a) (k : Nat) (hk : 80 ≤ k) : ∃ q s n e, group_Get.f k b a = some (q, s, n, e) ∧ praxinoscoperef18_Get.f k b a = some (q, s, n, e) ∧ s.length ≤ 32 := by
  have hb1 := hb.1
  obtain ⟨ha0, ha1⟩ := ha
  unfold group_Get.f praxinoscoperef18_Get.f
  rw [ref_Read_eq b hb _ _ k (by omega), Option.bind_some]
  by_cases h0 : a < 0
  · have : readP b a 5 = (0, 3) := by unfold readP; rw [if_pos (.inl h0)]
    rw [if_pos h0, this]; exact ⟨_, _, _, _, rfl, by simp, by simp⟩
  rw [if_neg h0, count_eq b hb, Option.bind_some]
  by_cases h1 : a > 8 * (b.length : Int)
  · have : readP b a 5 = (0, 5) := by unfold readP; rw [if_neg (by omega), if_pos (.inl h1)]
    rw [if_pos h1, this]; exact ⟨_, _, _, _, rfl, by simp, by simp⟩
  rw [if_neg h1, bits_Read_eq b hb _ _ k (by omega), Option.bind_some]
  obtain ⟨p, rfl⟩ := Int.eq_ofNat_of_zero_le (show 0 ≤ a by omega)
  by_cases c1 : 8 * b.length < p + 5
  · have := readP_short b p 5 (by omega) c1
    rw [show ((5 : Nat) : Int) = 5 from rfl] at this
    rw [this]; exact ⟨_, _, _, _, by simp; exact ⟨rfl, rfl, rfl, rfl⟩, by simp, by simp⟩
  have h5 := readP_in b p 5 (by omega) (by omega)
  rw [show ((5 : Nat) : Int) = 5 from rfl] at h5
  rw [h5]
  simp only [if_true]
  by_cases hz : numB b p 5 = 0
  · rw [if_pos hz, if_pos hz]; exact ⟨_, _, _, _, rfl, rfl, by simp⟩
  rw [if_neg hz, if_neg hz]
  unfold praxinoscoperef17_Spares.f
  rw [w64 ((p : Int) + 5) (by omega) (by omega), show ((p : Int) + 5) = ((p + 5 : Nat) : Int) from by omega]
  obtain ⟨r, k1, k2, k3, k4, k5⟩ := spares_both b hb p (numB b p 5) 32 k [] 0 (by simp) (by omega) (by omega)
  rw [show ((0 : Nat) : Int) = 0 from rfl] at k1
  rw [show ((5 + 0 : Nat) : Int) = 5 from rfl] at k2
  rw [k1, k2, Option.bind_some]
  by_cases he : r.2.2 = 0
  · rw [if_pos he, if_pos he, w64 _ (by omega) (by omega)]; exact ⟨_, _, _, _, rfl, rfl, k5⟩
  · rw [if_neg he, if_neg he]; exact ⟨_, _, _, _, rfl, rfl, by simp⟩

theorem noughts_eq (b : List Int) (hb : OkB b) (a : Nat) (d : Nat) : ∀ (k t : Nat), a + t + d = 8 * b.length → d < k →
    praxinoscoperef01_noughts.l0 k b (a : Int) (t : Int) = some (match firstOne b d (a + t) with | none => ((8 * b.length - a : Nat) : Int) | some i => ((i - a : Nat) : Int)) := by
  have hb1 := hb.1
  induction d with
  | zero =>
    intro k t h hk
    obtain ⟨k, rfl⟩ : ∃ q, k = q + 1 := ⟨k - 1, by omega⟩
    simp only [praxinoscoperef01_noughts.l0, firstOne]
    rw [ref_count_eq b hb, Option.bind_some, w64 _ (by omega) (by omega), if_neg (by omega), show 8 * b.length - a = t from by omega]
  | succ d ih =>
    intro k t h hk
    obtain ⟨k, rfl⟩ : ∃ q, k = q + 1 := ⟨k - 1, by omega⟩
    simp only [praxinoscoperef01_noughts.l0, firstOne]
    rw [ref_count_eq b hb, Option.bind_some, w64 ((a : Int) + t) (by omega) (by omega), if_pos (by omega), show ((a : Int) + t) = ((a + t : Nat) : Int) from by omega, ref_bit_eq b hb (a + t) (by omega), Option.bind_some]
    by_cases hz : bitB b (a + t) = 0
    · rw [if_pos hz, if_pos hz, w64 _ (by omega) (by omega), show ((t : Int) + 1) = ((t + 1 : Nat) : Int) from by omega, ih k (t + 1) (by omega) (by omega)]
      rw [show a + (t + 1) = a + t + 1 from by omega]
    · rw [if_neg hz, if_neg hz]
      simp only []
      congr 1
      omega

theorem firstOne_bd (b : List Int) : ∀ (d i j : Nat), firstOne b d i = some j → i ≤ j ∧ j < i + d := by
  intro d
  induction d with
  | zero => intro i j h; simp [firstOne] at h
  | succ d ih =>
    intro i j h
    simp only [firstOne] at h
    split at h
    · have := ih _ _ h; omega
    · cases h; omega

/-- The reference's Start. -/
theorem ref_Start_eq (b : List Int) (hb : OkB b) (a : Int) (ha : in64 a) (k : Nat) (hk : 8 * b.length + 80 ≤ k) : praxinoscoperef01_Start.f k b a = some (startP b a) := by
  have hb1 := hb.1
  obtain ⟨ha0, ha1⟩ := ha
  unfold praxinoscoperef01_Start.f startP
  by_cases h0 : a < 0
  · rw [if_pos h0, if_pos h0]
  rw [if_neg h0, if_neg h0, ref_count_eq b hb, Option.bind_some]
  obtain ⟨p, rfl⟩ := Int.eq_ofNat_of_zero_le (show 0 ≤ a by omega)
  rw [show ((p : Int)).toNat = p from by omega]
  by_cases h1 : (p : Int) ≥ 8 * (b.length : Int)
  · rw [if_pos h1, show 8 * b.length - p = 0 from by omega]; simp [firstOne]
  rw [if_neg h1]
  unfold praxinoscoperef01_noughts.f
  have hn := noughts_eq b hb p (8 * b.length - p) k 0 (by omega) (by omega)
  rw [show ((0 : Nat) : Int) = 0 from rfl, Nat.add_zero] at hn
  rw [hn, Option.bind_some, Option.bind_some]
  cases hf : firstOne b (8 * b.length - p) p with
  | none =>
    simp only []
    rw [w64 _ (by omega) (by omega), if_pos (by omega)]
  | some i =>
    have hi := firstOne_bd b _ _ _ hf
    simp only []
    rw [w64 ((p : Int) + ((i - p : Nat) : Int)) (by omega) (by omega), if_neg (by omega)]
    by_cases h15 : (i : Int) - p < 15
    · rw [if_pos (by omega), if_pos h15]
    rw [if_neg (by omega), if_neg h15, w64 _ (by omega) (by omega), show ((p : Int) + ((i - p : Nat) : Int) + 1) = (i : Int) + 1 from by omega, ref_Read_eq b hb _ _ k (by omega), Option.bind_some]
    by_cases he : (readP b ((i : Int) + 1) 4).2 = 0
    · rw [if_pos he, if_pos he, w64 _ (by omega) (by omega)]
      congr 3
      omega
    · rw [if_neg he, if_neg he]

theorem in64_w (x : Int) : in64 (wrap64 x) := by unfold in64 wrap64; omega

/-- Both Opens answer alike. -/
theorem open_both (b : List Int) (hb : OkB b) (a : Int) (ha : in64 a) (k : Nat) (hk : 8 * b.length + 80 ≤ k) : ∃ p q s n e, group_Open.f k b a = some (p, q, s, n, e) ∧ praxinoscoperef18_Open.f k b a = some (p, q, s, n, e) ∧ s.length ≤ 32 := by
  unfold group_Open.f praxinoscoperef18_Open.f bits_Start.f
  rw [if_pos ⟨hb, ha⟩, ref_Start_eq b hb a ha k hk, Option.bind_some, Option.bind_some]
  by_cases h1 : (startP b a).2.2 = 0
  · rw [if_pos h1, if_pos h1]
    by_cases h2 : (startP b a).1 = 0
    · rw [if_pos h2, if_pos h2]; exact ⟨_, _, _, _, _, rfl, rfl, by simp⟩
    rw [if_neg h2, if_neg h2]
    obtain ⟨q, s, n, e, g1, g2, g3⟩ := get_both b hb (wrap64 (a + (startP b a).2.1)) (in64_w _) k (by omega)
    rw [g1, g2]
    simp only [Option.bind_some]
    by_cases h3 : e = 0
    · rw [if_pos h3]; exact ⟨_, _, _, _, _, rfl, rfl, g3⟩
    · rw [if_neg h3]; exact ⟨_, _, _, _, _, rfl, rfl, by simp⟩
  · rw [if_neg h1, if_neg h1]; exact ⟨_, _, _, _, _, rfl, rfl, by simp⟩
end Go.Proofs.Ytjbpcffmeaadeaa.Pl
