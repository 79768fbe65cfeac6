import Derived.Test.YtjbpcffmeaadeaaTopP2
import Derived.Test.YtjbpcffmeaadeaaM4
/- The plain law of PictureAgain. -/
namespace Go.Proofs.Ytjbpcffmeaadeaa.Pure
open Go.RowKit Go.Proofs.Ytjbpcffmeaadeaa.Pr Go.Proofs.Ytjbpcffmeaadeaa.Pc Go.Proofs.YtjbpcffmeaadeaaW.PrintWords Go.Proofs.YtjbpcffmeaadeaaW.PrintLast Go.Proofs.YtjbpcffmeaadeaaW.PrintMore

theorem known17 (k : Nat) (hk : 60 ≤ k) : praxinoscopelaw17_PictureKnown.f k = some true :=
  mono_le _ praxinoscopelaw17_PictureKnown.mono hk (by decide +kernel)

theorem again17_loop (b : List Int) (hb : OkB b) (p : Nat) (t : List UInt8) (ht : Bin t) (h : Reads b p t) (ht2 : t.length ≤ 1000) (aw : Bool) (m : Nat) : ∀ (k i : Nat), i + m = t.length → m + 41 ≤ k →
    praxinoscopelaw17_PictureAgain.l0 k b (p : Int) aw (t.length : Int) ⟨t.toArray⟩ (i : Int) = some aw := by
  induction m with
  | zero =>
    intro k i hi hk
    obtain ⟨k, rfl⟩ : ∃ q, k = q + 1 := ⟨k - 1, by omega⟩
    simp only [praxinoscopelaw17_PictureAgain.l0]
    rw [if_neg (by omega)]
  | succ m ih =>
    intro k i hi hk
    obtain ⟨k, rfl⟩ : ∃ q, k = q + 1 := ⟨k - 1, by omega⟩
    have hl := h.1
    have hb1 := hb.1
    simp only [praxinoscopelaw17_PictureAgain.l0]
    rw [if_pos (by omega), w64 ((p : Int) + i) (by omega) (by omega), show ((p : Int) + i) = ((p + i : Nat) : Int) from by omega, bits_Read_eq b hb _ _ k (by omega), Option.bind_some, readP_in1 b (p + i) (by omega)]
    simp only [if_true]
    have hbit := h.2 i (by omega)
    rw [List.getD_eq_getElem?_getD, List.getElem?_eq_getElem (show i < t.length by omega), Option.getD_some] at hbit
    rw [if_pos (by omega), ba_size, if_pos (by omega), bt_list t i (by omega), hbit]
    have hc : bv (t[i]'(by omega)) = wrap64 (wrap64 ((t[i]'(by omega)).toNat : Int) - 48) := by
      rcases ht (t[i]'(by omega)) (List.getElem_mem _) with h | h <;> rw [h] <;> decide +kernel
    rw [if_pos hc, w64 _ (by omega) (by omega), show ((i : Int) + 1) = ((i + 1 : Nat) : Int) from by omega, ih k (i + 1) (by omega) (by omega)]

theorem PictureAgain : praxinoscopelaw17_PictureAgain.Pure := by
  intro l0 a1 m0 m0' w0 w1
  have hb := OkB.of_wf m0' w0
  obtain ⟨K, hK⟩ : ∃ K : Nat, K = 2000 := ⟨_, rfl⟩
  refine ⟨K + 1, ?_⟩
  unfold praxinoscopelaw17_PictureAgain.f
  rw [known17 _ (by omega), Option.bind_some]
  by_cases c1 : (l0.length : Int) > 60
  · rw [if_pos c1]
  rw [if_neg c1, w64 (8 * _) (by omega) (by omega), w64 _ (by omega) (by omega)]
  obtain ⟨r, e0, r0, r1⟩ := pick_eq a1 (8 * (l0.length : Int) + 1) (by omega) (by omega)
  rw [e0, Option.bind_some]
  obtain ⟨p, rfl⟩ := Int.eq_ofNat_of_zero_le r0
  rcases get_any l0 hb p (by omega) with ⟨t, ty, s, t0, t1, y0, y1, hs, hn, hr, hg⟩ | ⟨e, he, hg⟩
  · have hpl := picL_length t ty s
    have hpb := picL_bin t ty s
    rw [hg, Option.bind_some]
    simp only [if_true]
    rw [put_eq t ty s t0 t1 y0 y1 hs hn (K + 1) (by omega), Option.bind_some]
    simp only [if_true]
    rw [ba_size, hpl, if_pos rfl, check_ok t ty s t0 t1 y0 y1 hn, Option.bind_some, show ((0 : Int) != 0) = false from rfl]
    simp only [praxinoscopelaw17_PictureAgain.j0]
    rw [if_neg (by decide), ← hpl]
    exact again17_loop l0 hb p (picL t ty s) hpb hr (by omega) true (picL t ty s).length K 0 (by omega) (by omega)
  · rw [hg, Option.bind_some]
    simp only []
    rw [if_neg (by omega), if_pos trivial, if_pos trivial]
    have hsh : praxinoscopekit_SameHead.f 0 0 ([] : List Int) 0 0 ([] : List Int) = some true := by decide +kernel
    rw [hsh, Option.bind_some, if_pos rfl]
    rcases he with rfl | rfl
    · rw [if_pos rfl]
    · rw [if_neg (by decide)]; rfl

end Go.Proofs.Ytjbpcffmeaadeaa.Pure
