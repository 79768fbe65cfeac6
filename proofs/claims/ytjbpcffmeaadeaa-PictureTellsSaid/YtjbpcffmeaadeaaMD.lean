import Derived.Test.YtjbpcffmeaadeaaM2
/- Plain laws: the reference's digits and spare bytes. -/
namespace Go.Proofs.Ytjbpcffmeaadeaa.Pd
open Go.RowKit Go.Proofs.Ytjbpcffmeaadeaa.Pr Go.Proofs.YtjbpcffmeaadeaaW.PrintWords Go.Proofs.YtjbpcffmeaadeaaW.PrintLast Go.Proofs.YtjbpcffmeaadeaaW.PrintMore

theorem so48 : strOfNums [48] = (⟨([48] : List UInt8).toArray⟩ : ByteArray) := by decide +kernel
theorem so49 : strOfNums [49] = (⟨([49] : List UInt8).toArray⟩ : ByteArray) := by decide +kernel
theorem so_dg (n : Int) (i : Nat) (h0 : 0 ≤ n) : strOfNums [(wrap64 (48 + Int.tmod (n / 2 ^ i) 2)) % 256] = (⟨([dg n i] : List UInt8).toArray⟩ : ByteArray) := by
  have hp : (0 : Int) < 2 ^ i := Int.pow_pos (by decide)
  have h1 := Int.ediv_nonneg h0 (show (0 : Int) ≤ 2 ^ i by omega)
  rw [Int.tmod_eq_emod_of_nonneg h1]
  unfold dg
  rcases (show n / 2 ^ i % 2 = 0 ∨ n / 2 ^ i % 2 = 1 by omega) with h | h
  · rw [h, if_pos rfl, show wrap64 (48 + 0) % 256 = 48 from by decide +kernel]; exact so48
  · rw [h, if_neg (by decide), show wrap64 (48 + 1) % 256 = 49 from by decide +kernel]; exact so49

theorem digits_loop (n : Int) (h0 : 0 ≤ n) (m : Nat) : ∀ (k : Nat) (t : List UInt8), m ≤ 63 → m < k → t.length + m ≤ 1000000 →
    praxinoscoperef17_Digits.l0 k n ⟨t.toArray⟩ ((m : Int) - 1) = some ⟨(t ++ digs n m).toArray⟩ := by
  induction m with
  | zero =>
    intro k t hm hk ht
    obtain ⟨k, rfl⟩ : ∃ q, k = q + 1 := ⟨k - 1, by omega⟩
    simp only [praxinoscoperef17_Digits.l0]
    rw [if_neg (by omega)]
    simp [digs]
  | succ m ih =>
    intro k t hm hk ht
    obtain ⟨k, rfl⟩ : ∃ q, k = q + 1 := ⟨k - 1, by omega⟩
    simp only [praxinoscoperef17_Digits.l0]
    rw [show (((m + 1 : Nat) : Int) - 1) = (m : Int) from by omega, if_pos (by omega)]
    have hu : IntKind.u64.wrap (m : Int) = (m : Int) := by rw [IntKind.wrap_u64]; omega
    rw [hu, if_pos (by omega), Option.bind_some]
    have es : shr .i64 n (m : Int) = n / 2 ^ m := by
      unfold shr
      rw [show ((m : Int)).toNat = m from by omega, show IntKind.i64.bits = 64 from rfl, Nat.min_eq_left (by omega)]
    rw [es, so_dg n m h0, ba_size, ba_size, if_pos (by simp; omega), ba_app, w64 _ (by omega) (by omega), ih k _ (by omega) (by omega) (by simp; omega)]
    simp [digs]

/-- The reference's Digits. -/
theorem ref_Digits (n : Int) (m : Nat) (h0 : 0 ≤ n) (hm : m ≤ 63) (k : Nat) (hk : m < k) : praxinoscoperef17_Digits.f k n (m : Int) = some ⟨(digs n m).toArray⟩ := by
  unfold praxinoscoperef17_Digits.f
  rw [w64 _ (by omega) (by omega)]
  have := digits_loop n h0 m k [] hm hk (by simp; omega)
  exact this

def sp (s : List Int) : List UInt8 := s.flatMap fun x => 49 :: digs x 8
theorem sp_cons (x : Int) (s : List Int) : sp (x :: s) = 49 :: (digs x 8 ++ sp s) := by simp [sp]
theorem ref_spare_loop (s : List Int) (hs : OkB s) (hn : s.length ≤ 1000) (m : Nat) : ∀ (k : Nat) (t : List UInt8) (i : Nat), i + m = s.length → m + 10 < k → t.length ≤ 100000 + 9 * i →
    praxinoscoperef17_Spare.l0 k s ⟨t.toArray⟩ (i : Int) = some ⟨(t ++ (sp (s.drop i) ++ [48])).toArray⟩ := by
  induction m with
  | zero =>
    intro k t i hi hk ht
    obtain ⟨k, rfl⟩ : ∃ q, k = q + 1 := ⟨k - 1, by omega⟩
    simp only [praxinoscoperef17_Spare.l0]
    rw [if_neg (by omega), ba_size, if_pos (by omega), List.drop_eq_nil_of_le (by omega), show (⟨#[48]⟩ : ByteArray) = ⟨([48] : List UInt8).toArray⟩ from rfl, ba_app]
    rfl
  | succ m ih =>
    intro k t i hi hk ht
    obtain ⟨k, rfl⟩ : ∃ q, k = q + 1 := ⟨k - 1, by omega⟩
    have hg := hs.getD i
    simp only [praxinoscoperef17_Spare.l0]
    have er : rd s (i : Int) = s.getD i 0 := by unfold rd; rw [show ((i : Int)).toNat = i from by omega]
    rw [if_pos (by omega), ba_size, if_pos (by omega), if_pos (by omega), er, w64 (s.getD i 0) (by omega) (by omega)]
    have e8 := ref_Digits (s.getD i 0) 8 hg.1 (by omega) k (by omega)
    rw [show ((8 : Nat) : Int) = 8 from rfl] at e8
    rw [e8, Option.bind_some, show (⟨#[49]⟩ : ByteArray) = ⟨([49] : List UInt8).toArray⟩ from rfl, ba_app, ba_size, ba_size, if_pos (by simp [digs_length]; omega), ba_app, w64 _ (by omega) (by omega), show ((i : Int) + 1) = ((i + 1 : Nat) : Int) from by omega,
      ih k _ (i + 1) (by omega) (by omega) (by simp [digs_length]; omega), List.drop_eq_getElem_cons (show i < s.length by omega), sp_cons]
    rw [List.getD_eq_getElem?_getD, List.getElem?_eq_getElem (by omega), Option.getD_some]
    simp only [List.append_assoc, List.cons_append, List.nil_append]
/-- The reference's Spare. -/
theorem ref_Spare (s : List Int) (hs : OkB s) (hn : s.length ≤ 1000) (k : Nat) (hk : s.length + 10 < k) : praxinoscoperef17_Spare.f k s = some ⟨(sp s ++ [48]).toArray⟩ := by
  unfold praxinoscoperef17_Spare.f
  have := ref_spare_loop s hs hn s.length k [] 0 (by omega) (by omega) (by simp)
  exact this
end Go.Proofs.Ytjbpcffmeaadeaa.Pd
