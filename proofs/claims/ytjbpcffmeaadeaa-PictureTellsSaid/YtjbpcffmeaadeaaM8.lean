import Derived.Test.YtjbpcffmeaadeaaMD
import Derived.Test.YtjbpcffmeaadeaaM4
/- Plain laws: the reference's Put, Check and Format tell what picture's do. -/
namespace Go.Proofs.Ytjbpcffmeaadeaa.Pc
open Go.RowKit Go.Proofs.Ytjbpcffmeaadeaa.Pr Go.Proofs.Ytjbpcffmeaadeaa.Pd Go.Proofs.YtjbpcffmeaadeaaW.PrintWords Go.Proofs.YtjbpcffmeaadeaaW.PrintLast Go.Proofs.YtjbpcffmeaadeaaW.PrintMore

theorem and_any1 (x : Int) : Go.bits .and .i64 x 1 = x % 2 := by
  simp only [Go.bits, BitVec.toNat_and, BitVec.toNat_ofInt]
  rw [show ((1 : Int) % ((2 ^ IntKind.i64.bits : Nat) : Int)).toNat = 2 ^ 1 - 1 from by decide, Nat.and_two_pow_sub_one_eq_mod, show IntKind.i64.bits = 64 from rfl, IntKind.wrap_i64]
  omega
theorem and_any63 (x : Int) : Go.bits .and .i64 x 63 = x % 64 := by
  simp only [Go.bits, BitVec.toNat_and, BitVec.toNat_ofInt]
  rw [show ((63 : Int) % ((2 ^ IntKind.i64.bits : Nat) : Int)).toNat = 2 ^ 6 - 1 from by decide, Nat.and_two_pow_sub_one_eq_mod, show IntKind.i64.bits = 64 from rfl, IntKind.wrap_i64]
  omega

theorem format_both (t ty : Int) (s : List Int) : praxinoscoperef17_Format.f t ty s = picture_Format.f t ty s := by
  unfold praxinoscoperef17_Format.f picture_Format.f
  rw [and_any63, and_any1, Int.tdiv_eq_ediv_of_nonneg (by omega), w64 _ (by omega) (by omega), Int.tmod_eq_emod_of_nonneg (by omega)]
  congr 1
  omega
theorem check_both (t ty : Int) (s : List Int) : praxinoscoperef17_Check.f t ty s = picture_Check.f t ty s := rfl
theorem check_some (t ty : Int) (s : List Int) : ∃ c, picture_Check.f t ty s = some c := by
  unfold picture_Check.f
  repeat' split
  all_goals exact ⟨_, rfl⟩

theorem put_both (t ty : Int) (s : List Int) (hs : OkB s) (k : Nat) (hk : 2000 ≤ k) (hn : s.length ≤ 1000) : ∃ x e, picture_Put.f k t ty s = some (x, e) ∧ praxinoscoperef17_Put.f k t ty s = some (x, e) := by
  by_cases h : t < 0 ∨ 31 < t ∨ ty < 0 ∨ 63 < ty ∨ 32 < s.length
  · refine ⟨_, _, put_no t ty s h k, ?_⟩
    unfold praxinoscoperef17_Put.f
    rw [check_both, check_no t ty s h, Option.bind_some, if_neg (by decide)]
  · refine ⟨_, _, put_eq t ty s (by omega) (by omega) (by omega) (by omega) hs (by omega) k (by omega), ?_⟩
    unfold praxinoscoperef17_Put.f
    have e5 := ref_Digits t 5 (by omega) (by omega) k (by omega)
    have e6 := ref_Digits ty 6 (by omega) (by omega) k (by omega)
    rw [show ((5 : Nat) : Int) = 5 from rfl] at e5
    rw [show ((6 : Nat) : Int) = 6 from rfl] at e6
    have hsp : (sp s ++ [48]).length ≤ 100000 := by
      have : sp s = spares s := rfl
      rw [this, List.length_append, spares_length, List.length_singleton]; omega
    rw [check_both, check_ok t ty s (by omega) (by omega) (by omega) (by omega) (by omega), Option.bind_some, if_pos rfl, e5, Option.bind_some, e6, Option.bind_some, ba_size, ba_size, digs_length, digs_length, if_pos (by omega), ref_Spare s hs (by omega) k (by omega), Option.bind_some, ba_app, ba_size, ba_size, if_pos (by simp only [List.length_append, digs_length] at hsp ⊢; omega), ba_app, List.append_assoc]
    rfl
end Go.Proofs.Ytjbpcffmeaadeaa.Pc
