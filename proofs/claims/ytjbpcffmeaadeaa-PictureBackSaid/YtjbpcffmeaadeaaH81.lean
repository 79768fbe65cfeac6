import Derived.Test.YtjbpcffmeaadeaaM1
import Derived.Outline
import Derived.WalkSpells
import Derived.WalkLawsBesides
/- The contract of (group.text).number, walked by hand. -/
namespace Go.Proofs.Ytjbpcffmeaadeaa.Pr
open Go.RowKit Go.Proofs.YtjbpcffmeaadeaaW.PrintWords Go.Proofs.YtjbpcffmeaadeaaW.PrintLast Go.Proofs.YtjbpcffmeaadeaaW.PrintMore

theorem enc48 : Utf8.encode 48 = ⟨#[48]⟩ := by decide +kernel
theorem enc49 : Utf8.encode 49 = ⟨#[49]⟩ := by decide +kernel
theorem div_pow_bd (n : Int) (i : Nat) (h0 : 0 ≤ n) (h1 : n ≤ 9223372036854775807) : 0 ≤ n / 2 ^ i ∧ n / 2 ^ i ≤ 9223372036854775807 := by
  have hp : (0 : Int) < 2 ^ i := Int.pow_pos (by decide)
  exact ⟨Int.ediv_nonneg h0 (by omega), Int.le_trans (Int.ediv_le_self _ h0) h1⟩
theorem enc_dg (n : Int) (i : Nat) (h0 : 0 ≤ n) (h1 : n ≤ 9223372036854775807) :
    Utf8.encode (wrap32 (wrap64 (48 + Go.bits .and .i64 (n / 2 ^ i) 1))) = ⟨#[dg n i]⟩ := by
  have hb := div_pow_bd n i h0 h1
  rw [and1 _ hb.1 (by omega)]
  unfold dg
  rcases (show n / 2 ^ i % 2 = 0 ∨ n / 2 ^ i % 2 = 1 by omega) with h | h
  · rw [h, if_pos rfl, show wrap32 (wrap64 (48 + 0)) = 48 from by simp [wrap32, wrap64]]; exact enc48
  · rw [h, if_neg (by decide), show wrap32 (wrap64 (48 + 1)) = 49 from by simp [wrap32, wrap64]]; exact enc49

theorem app_digs (x : ByteArray) (n : Int) (j : Nat) : (x ++ ⟨#[dg n j]⟩) ++ (⟨(digs n j).toArray⟩ : ByteArray) = x ++ ⟨(digs n (j + 1)).toArray⟩ := by
  rw [ByteArray.append_assoc]
  congr 1

theorem app_digs0 (x : ByteArray) (n : Int) : x ++ (⟨(digs n 0).toArray⟩ : ByteArray) = x := by
  apply ByteArray.ext
  simp [digs]

set_option maxHeartbeats 1000000 in
theorem number_calls (t : ByteArray) (n : Int) (m : Nat) (w : World) (hm : m ≤ 64) (hn : 0 ≤ n ∧ n ≤ 9223372036854775807) (ht : t.size + m ≤ 9223372036854775807) :
    Calls Try.prog 81 #[.string t, .int .i64 n, .int .i64 m] w fun e w' => e = .returned (.string (t ++ ⟨(digs n m).toArray⟩)) ∧ w = w' := by
  have Hn := Aside0.mk hn
  have Ht := Aside0.mk ht
  clear hn ht
  go_enter Try.func81, Try.ntmps81
  go_wp2
  go_loop [0, 7] (fun v0 v7 => ∃ (x : ByteArray) (i : Int), v0 = .string x ∧ v7 = .int .i64 i ∧ -1 ≤ i ∧ i < m ∧ Aside0 (x ++ ⟨(digs n (i + 1).toNat).toArray⟩ = t ++ ⟨(digs n m).toArray⟩)) (fun _ v7 => (intOf v7 + 1).toNat)
  case atStart => exact ⟨t, (m : Int) - 1, rfl, rfl, by omega, by omega, ⟨by rw [show ((m : Int) - 1 + 1).toNat = m from by omega]⟩⟩
  case round =>
    obtain ⟨x, i, rfl, rfl, hi0, hj, Hx⟩ := hrel
    by_cases hi : i < 0
    · have hd : decide (0 ≤ i) = false := decide_eq_false (by omega)
      go_wp2
      go_ret
      refine ⟨?_, rfl⟩
      rw [← Hx.out, show (i + 1).toNat = 0 from by omega, app_digs0]
      rfl
    · obtain ⟨j, rfl⟩ := Int.eq_ofNat_of_zero_le (show 0 ≤ i by omega)
      have hu := enc_dg n j Hn.out.1 Hn.out.2
      have hs : x.size + 1 ≤ 9223372036854775807 := by
        have h1 := congrArg ByteArray.size Hx.out
        simp only [ByteArray.size_append] at h1
        have h2 : (⟨(digs n ((j : Int) + 1).toNat).toArray⟩ : ByteArray).size = j + 1 := by show (digs n ((j : Int) + 1).toNat).toArray.size = _; simp [digs_length]
        have h3 : (⟨(digs n m).toArray⟩ : ByteArray).size = m := by show (digs n m).toArray.size = _; simp [digs_length]
        have := Ht.out
        omega
      have hs2 : (9223372036854775807 < x.size + 1) = False := eq_false (by omega)
      have hz : (⟨#[dg n j]⟩ : ByteArray).size = 1 := rfl
      go_wp2
      go_round
      case rel => exact ⟨x ++ ⟨#[dg n j]⟩, (j : Int) - 1, rfl, rfl, by omega, by omega, ⟨by rw [show ((j : Int) - 1 + 1).toNat = j from by omega, app_digs, ← Hx.out, show ((j : Int) + 1).toNat = j + 1 from by omega]⟩⟩
      case measure => simp [intOf]

def group_text_number.f (a0 : ByteArray) (a1 a2 : Int) : Option ByteArray :=
  if 0 ≤ a2 ∧ a2 ≤ 64 ∧ (0 ≤ a1 ∧ a1 ≤ 9223372036854775807) ∧ a0.size + a2.toNat ≤ 9223372036854775807 then some (a0 ++ ⟨(digs a1 a2.toNat).toArray⟩) else none
theorem group_text_number.calls (a0 : ByteArray) (a1 a2 : Int) (r : ByteArray) (w : World) (h : group_text_number.f a0 a1 a2 = some r) :
    Calls Try.prog 81 #[.string a0, .int .i64 a1, .int .i64 a2] w fun e w' => e = .returned (.string r) ∧ Below w.heap.size w w' := by
  unfold group_text_number.f at h
  split at h
  · rename_i hc
    obtain ⟨h0, h1, h2, h3⟩ := hc
    cases h
    obtain ⟨m, rfl⟩ := Int.eq_ofNat_of_zero_le h0
    refine (number_calls a0 a1 m w (by omega) h2 (by simpa using h3)).mono ?_
    rintro e w' ⟨rfl, rfl⟩
    exact ⟨by simp, Below.refl _ _⟩
  · cases h
end Go.Proofs.Ytjbpcffmeaadeaa.Pr
