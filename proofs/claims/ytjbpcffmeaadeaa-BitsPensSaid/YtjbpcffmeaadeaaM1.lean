import Derived.Test.YtjbpcffmeaadeaaBase
/- Plain laws on bits of bytes: what bits.Read, the reference's Read and their callees come to, as printed, for every list of bytes. -/
namespace Go.Proofs.Ytjbpcffmeaadeaa.Pr
open Go.RowKit Go.Proofs.YtjbpcffmeaadeaaW.PrintWords Go.Proofs.YtjbpcffmeaadeaaW.PrintLast Go.Proofs.YtjbpcffmeaadeaaW.PrintMore

/-- The digit of bit i of n, as a byte. -/
def dg (n : Int) (i : Nat) : UInt8 := if n / 2 ^ i % 2 = 0 then 48 else 49
/-- The lowest m bits of n as digits, the highest first. -/
def digs (n : Int) : Nat → List UInt8
  | 0 => []
  | m + 1 => dg n m :: digs n m
theorem digs_length (n : Int) (m : Nat) : (digs n m).length = m := by
  induction m with
  | zero => rfl
  | succ m ih => simp [digs, ih]

/-- The bit at place i. -/
def bitB (l : List Int) (i : Nat) : Int := l.getD (i / 8) 0 / 2 ^ (7 - i % 8) % 2
/-- The number of n bits from place i on. -/
def numB (l : List Int) (i : Nat) : Nat → Int
  | 0 => 0
  | n + 1 => 2 * numB l i n + bitB l (i + n)
/-- A list of bytes that a slice may hold. -/
def OkB (l : List Int) : Prop := l.length ≤ 140737488351232 ∧ ∀ x ∈ l, 0 ≤ x ∧ x ≤ 255
instance (l : List Int) : Decidable (OkB l) := by unfold OkB; infer_instance

theorem OkB.of_wf {l : List Int} (h : l.length * 1 ≤ 140737488351232) (hw : ∀ x ∈ l, (Lit.int .u8 x).wf = true) : OkB l := by
  refine ⟨by omega, fun x hx => ?_⟩
  have := hw x hx
  simp [Lit.wf] at this
  have e1 : IntKind.u8.min = 0 := by rfl
  have e2 : IntKind.u8.max = 255 := by rfl
  omega

theorem OkB.getD {l : List Int} (h : OkB l) (i : Nat) : 0 ≤ l.getD i 0 ∧ l.getD i 0 ≤ 255 := by
  by_cases hi : i < l.length
  · rw [List.getD_eq_getElem?_getD, List.getElem?_eq_getElem hi]; exact h.2 _ (List.getElem_mem _)
  · rw [List.getD_eq_getElem?_getD, List.getElem?_eq_none (by omega)]; simp

theorem bitB_01 (l : List Int) (i : Nat) : bitB l i = 0 ∨ bitB l i = 1 := by unfold bitB; omega

theorem numB_range (l : List Int) (i n : Nat) : 0 ≤ numB l i n ∧ numB l i n < 2 ^ n := by
  induction n with
  | zero => simp [numB]
  | succ n ih =>
    have := bitB_01 l (i + n)
    simp only [numB]
    rw [Int.pow_succ]
    omega

theorem two63' : (2 : Int) ^ 63 = 9223372036854775808 := by decide
theorem i64_small (n : Int) (h0 : 0 ≤ n) (h1 : n < 2 ^ 63) : IntKind.i64.wrap n = n := by rw [two63'] at h1; rw [IntKind.wrap_i64]; omega
theorem w64 (n : Int) (h0 : -9223372036854775808 ≤ n) (h1 : n ≤ 9223372036854775807) : wrap64 n = n := by unfold wrap64; omega
theorem and1 (x : Int) (h0 : 0 ≤ x) (h1 : x < 9223372036854775808) : Go.bits .and .i64 x 1 = x % 2 := by
  have := bits_mask .i64 63 (by decide) i64_small 1 (by decide) x h0 (by rw [two63']; exact h1)
  simpa using this
theorem and7 (x : Int) (h0 : 0 ≤ x) (h1 : x < 9223372036854775808) : Go.bits .and .i64 x 7 = x % 8 := by
  have := bits_mask .i64 63 (by decide) i64_small 3 (by decide) x h0 (by rw [two63']; exact h1)
  simpa using this
theorem or1 (x y : Int) (h0 : 0 ≤ x) (hx : x % 2 = 0) (h1 : x < 9223372036854775808) (hy : y = 0 ∨ y = 1) : Go.bits .or .i64 x y = x + y :=
  bits_join .i64 63 (by decide) i64_small 1 x y h0 (by simpa using hx) (by rw [two63']; exact h1) (by omega) (by omega) (by rw [two63']; omega)

theorem div_pow_le (b : Int) (k : Nat) (h0 : 0 ≤ b) (h1 : b ≤ 255) : 0 ≤ b / 2 ^ k ∧ b / 2 ^ k ≤ 255 := by
  have hp : (0 : Int) < 2 ^ k := Int.pow_pos (by decide)
  exact ⟨Int.ediv_nonneg h0 (by omega), Int.le_trans (Int.ediv_le_self _ h0) h1⟩

theorem bits_bit_eq (l : List Int) (h : OkB l) (i : Nat) (hi : i < 8 * l.length) : bits_bit.f l (i : Int) = some (bitB l i) := by
  have hl := h.1
  have hg := h.getD (i / 8)
  unfold bits_bit.f
  rw [if_pos (by omega), if_pos (by omega), and7 _ (by omega) (by omega), w64 (7 - _) (by omega) (by omega), if_pos (by omega)]
  have e1 : ((i : Int) / 8).toNat = i / 8 := by omega
  have e2 : min (7 - (i : Int) % 8).toNat IntKind.u8.bits = 7 - i % 8 := by
    have : IntKind.u8.bits = 8 := rfl
    omega
  unfold shr rd
  rw [e1, e2]
  have hd := div_pow_le _ (7 - i % 8) hg.1 hg.2
  rw [w64 _ (by omega) (by omega), and1 _ (by omega) (by omega)]
  rfl

theorem ref_bit_eq (l : List Int) (h : OkB l) (i : Nat) (hi : i < 8 * l.length) : praxinoscoperef01_bit.f l (i : Int) = some (bitB l i) := by
  have hl := h.1
  have hg := h.getD (i / 8)
  unfold praxinoscoperef01_bit.f
  rw [Int.tdiv_eq_ediv_of_nonneg (by omega), Int.tmod_eq_emod_of_nonneg (by omega), w64 ((i : Int) / 8) (by omega) (by omega), if_pos (by omega), if_pos (by omega), w64 (7 - _) (by omega) (by omega)]
  have hu : IntKind.u64.wrap (7 - (i : Int) % 8) = 7 - (i : Int) % 8 := by rw [IntKind.wrap_u64]; omega
  rw [hu, if_pos (by omega)]
  have e1 : ((i : Int) / 8).toNat = i / 8 := by omega
  have e2 : min (7 - (i : Int) % 8).toNat IntKind.u8.bits = 7 - i % 8 := by
    have : IntKind.u8.bits = 8 := rfl
    omega
  unfold shr rd
  rw [e1, e2]
  have hd := div_pow_le _ (7 - i % 8) hg.1 hg.2
  rw [w64 _ (by omega) (by omega), Int.tmod_eq_emod_of_nonneg (by omega)]
  rfl

theorem count_eq (l : List Int) (h : OkB l) : bits_Count.f l = some (8 * (l.length : Int)) := by
  have := h.1
  unfold bits_Count.f
  rw [w64 _ (by omega) (by omega)]
theorem ref_count_eq (l : List Int) (h : OkB l) : praxinoscoperef01_Count.f l = some (8 * (l.length : Int)) := by
  have := h.1
  unfold praxinoscoperef01_Count.f
  rw [w64 _ (by omega) (by omega)]

/-- What Read answers: a number and an error. -/
def readP (l : List Int) (at_ n : Int) : Int × Int :=
  if at_ < 0 ∨ n < 0 ∨ n > 32 then (0, 3) else if at_ > 8 * (l.length : Int) ∨ 8 * (l.length : Int) - at_ < n then (0, 5) else (numB l at_.toNat n.toNat, 0)

theorem pow33 {n : Nat} (h : n ≤ 33) : (2 : Int) ^ n ≤ 8589934592 := by
  have : (2 : Nat) ^ n ≤ 2 ^ 33 := Nat.pow_le_pow_right (by decide) h
  have h2 : ((2 ^ n : Nat) : Int) ≤ ((2 ^ 33 : Nat) : Int) := by exact_mod_cast this
  simpa using h2

theorem bits_Read_loop (l : List Int) (h : OkB l) (i n : Nat) (hn : n ≤ 32) (hi : i + n ≤ 8 * l.length) (m : Nat) : ∀ (k d : Nat), d + m = n → m < k →
    bits_Read.l0 k l ((i + d : Nat) : Int) (m : Int) (numB l i d) = some (numB l i n, 0) := by
  have hl := h.1
  induction m with
  | zero =>
    intro k d hd hk
    obtain ⟨k, rfl⟩ : ∃ q, k = q + 1 := ⟨k - 1, by omega⟩
    obtain rfl : d = n := by omega
    simp only [bits_Read.l0]
    rw [if_neg (by omega)]
  | succ m ih =>
    intro k d hd hk
    obtain ⟨k, rfl⟩ : ∃ q, k = q + 1 := ⟨k - 1, by omega⟩
    simp only [bits_Read.l0]
    rw [if_pos (by omega), bits_bit_eq l h (i + d) (by omega)]
    simp only [Option.bind_some]
    have hr := numB_range l i d
    have hp := pow33 (n := d) (by omega)
    have hb := bitB_01 l (i + d)
    rw [w64 (numB l i d * 2) (by omega) (by omega), or1 _ _ (by omega) (by omega) (by omega) hb, w64 (((i + d : Nat) : Int) + 1) (by omega) (by omega), w64 (((m + 1 : Nat) : Int) - 1) (by omega) (by omega)]
    have := ih k (d + 1) (by omega) (by omega)
    have e1 : (((i + d : Nat) : Int) + 1) = ((i + (d + 1) : Nat) : Int) := by omega
    have e2 : (((m + 1 : Nat) : Int) - 1) = (m : Int) := by omega
    have e3 : numB l i d * 2 + bitB l (i + d) = numB l i (d + 1) := by simp only [numB]; omega
    rw [e1, e2, e3]
    exact this

/-- bits.Read is readP. -/
theorem bits_Read_eq (l : List Int) (h : OkB l) (a n : Int) (k : Nat) (hk : 40 ≤ k) : bits_Read.f k l a n = some (readP l a n) := by
  have hl := h.1
  obtain ⟨k, rfl⟩ : ∃ q, k = q + 1 := ⟨k - 1, by omega⟩
  unfold bits_Read.f readP
  by_cases h1 : a < 0
  · rw [if_pos h1, if_pos (.inl h1)]; simp [bits_Read.j0]
  by_cases h2 : n < 0
  · rw [if_neg h1, if_pos h2, if_pos (.inr (.inl h2))]; simp [bits_Read.j0]
  by_cases h3 : n > 32
  · rw [if_neg h1, if_neg h2, if_pos (.inr (.inr h3)), decide_eq_true h3]; simp [bits_Read.j0]
  rw [if_neg h1, if_neg h2, if_neg (show ¬ (a < 0 ∨ n < 0 ∨ n > 32) by omega), decide_eq_false h3]
  simp only [bits_Read.j0]
  rw [if_neg (by simp), count_eq l h]
  simp only [Option.bind_some]
  by_cases h4 : a > 8 * (l.length : Int)
  · rw [if_pos h4, if_pos (.inl h4)]
  rw [if_neg h4, w64 _ (by omega) (by omega)]
  by_cases h5 : 8 * (l.length : Int) - a < n
  · rw [if_pos h5, if_pos (.inr h5)]
  rw [if_neg h5, if_neg (show ¬ (a > 8 * (l.length : Int) ∨ 8 * (l.length : Int) - a < n) by omega)]
  have := bits_Read_loop l h a.toNat n.toNat (by omega) (by omega) n.toNat k 0 (by omega) (by omega)
  rw [show ((a.toNat + 0 : Nat) : Int) = a from by omega, show (n.toNat : Int) = n from by omega] at this
  exact this

theorem ref_Read_loop (l : List Int) (h : OkB l) (i n : Nat) (hn : n ≤ 32) (hi : i + n ≤ 8 * l.length) (m : Nat) : ∀ (k d : Nat), d + m = n → m < k →
    praxinoscoperef01_Read.l0 k l (i : Int) (n : Int) (numB l i d) (d : Int) = some (numB l i n, 0) := by
  have hl := h.1
  induction m with
  | zero =>
    intro k d hd hk
    obtain ⟨k, rfl⟩ : ∃ q, k = q + 1 := ⟨k - 1, by omega⟩
    obtain rfl : d = n := by omega
    simp only [praxinoscoperef01_Read.l0]
    rw [if_neg (by omega)]
  | succ m ih =>
    intro k d hd hk
    obtain ⟨k, rfl⟩ : ∃ q, k = q + 1 := ⟨k - 1, by omega⟩
    simp only [praxinoscoperef01_Read.l0]
    rw [if_pos (by omega), w64 ((i : Int) + d) (by omega) (by omega), show ((i : Int) + d) = ((i + d : Nat) : Int) from by omega, ref_bit_eq l h (i + d) (by omega)]
    simp only [Option.bind_some]
    have hr := numB_range l i d
    have hp := pow33 (n := d) (by omega)
    have hb := bitB_01 l (i + d)
    rw [w64 (2 * numB l i d) (by omega) (by omega), w64 (2 * numB l i d + _) (by omega) (by omega), w64 ((d : Int) + 1) (by omega) (by omega)]
    have := ih k (d + 1) (by omega) (by omega)
    exact this

/-- The reference's Read is readP. -/
theorem ref_Read_eq (l : List Int) (h : OkB l) (a n : Int) (k : Nat) (hk : 40 ≤ k) : praxinoscoperef01_Read.f k l a n = some (readP l a n) := by
  have hl := h.1
  obtain ⟨k, rfl⟩ : ∃ q, k = q + 2 := ⟨k - 2, by omega⟩
  unfold praxinoscoperef01_Read.f readP
  by_cases h1 : a < 0
  · rw [if_pos h1, if_pos (.inl h1)]; simp [praxinoscoperef01_Read.j0]
  by_cases h2 : n < 0
  · rw [if_neg h1, if_pos h2, if_pos (.inr (.inl h2))]; simp [praxinoscoperef01_Read.j0]
  by_cases h3 : n > 32
  · rw [if_neg h1, if_neg h2, if_pos (.inr (.inr h3)), decide_eq_true h3]; simp [praxinoscoperef01_Read.j0]
  rw [if_neg h1, if_neg h2, if_neg (show ¬ (a < 0 ∨ n < 0 ∨ n > 32) by omega), decide_eq_false h3]
  simp only [praxinoscoperef01_Read.j0]
  rw [if_neg (by simp), ref_count_eq l h]
  simp only [Option.bind_some]
  by_cases h4 : a > 8 * (l.length : Int)
  · rw [if_pos h4, if_pos (.inl h4)]; simp [praxinoscoperef01_Read.j1]
  rw [if_neg h4, w64 _ (by omega) (by omega)]
  simp only [praxinoscoperef01_Read.j1]
  by_cases h5 : n > 8 * (l.length : Int) - a
  · rw [decide_eq_true h5, if_pos rfl, if_pos (.inr h5)]
  rw [decide_eq_false h5, if_neg (by decide), if_neg (show ¬ (a > 8 * (l.length : Int) ∨ 8 * (l.length : Int) - a < n) by omega)]
  have := ref_Read_loop l h a.toNat n.toNat (by omega) (by omega) n.toNat k 0 (by omega) (by omega)
  rw [show (a.toNat : Int) = a from by omega, show (n.toNat : Int) = n from by omega] at this
  exact this

/-- The least place from i on, within d places, at which a one stands. -/
def firstOne (l : List Int) : Nat → Nat → Option Nat
  | 0, _ => none
  | d + 1, i => if bitB l i = 0 then firstOne l d (i + 1) else some i
/-- What Start answers. -/
def startP (l : List Int) (a : Int) : Int × Int × Int :=
  if a < 0 then (0, 0, 3) else
  match firstOne l (8 * l.length - a.toNat) a.toNat with
  | none => (0, 0, 5)
  | some i => if (i : Int) - a < 15 then (0, 0, 7) else if (readP l (i + 1) 4).2 = 0 then ((readP l (i + 1) 4).1, i + 5 - a, 0) else (0, 0, (readP l (i + 1) 4).2)
/-- What Find answers, run noughts having been seen right ahead of place i. -/
def findP (l : List Int) : Nat → Nat → Nat → Int × Int
  | 0, _, _ => (0, 5)
  | d + 1, i, run => if bitB l i = 0 then findP l d (i + 1) (run + 1) else if 15 ≤ run then ((i : Int) - 15, 0) else findP l d (i + 1) 0

def in64 (a : Int) : Prop := -9223372036854775808 ≤ a ∧ a ≤ 9223372036854775807
instance (a : Int) : Decidable (in64 a) := by unfold in64; infer_instance

def bits_Start.f (l0 : List Int) (a1 : Int) : Option (Int × Int × Int) := if OkB l0 ∧ in64 a1 then some (startP l0 a1) else none
def bits_Find.f (l0 : List Int) (a1 : Int) : Option (Int × Int) := if OkB l0 ∧ in64 a1 then some (if a1 < 0 then (0, 3) else findP l0 (8 * l0.length - a1.toNat) a1.toNat 0) else none
end Go.Proofs.Ytjbpcffmeaadeaa.Pr
