import Derived.Test.YtjbpcffmeaadeaaTopG4
import Derived.Test.YtjbpcffmeaadeaaM3
/- The plain law of GroupAgain. -/
namespace Go.Proofs.Ytjbpcffmeaadeaa.Pure
open Go.RowKit Go.Proofs.Ytjbpcffmeaadeaa.Pr Go.Proofs.YtjbpcffmeaadeaaW.PrintWords Go.Proofs.YtjbpcffmeaadeaaW.PrintLast Go.Proofs.YtjbpcffmeaadeaaW.PrintMore

theorem again_loop (b : List Int) (hb : OkB b) (t : List UInt8) (ht : Bin t) (h : Reads b 0 t) (ht2 : t.length ≤ 1000) (aw : Bool) (m : Nat) : ∀ (k i : Nat), i + m = t.length → m ≤ k →
    praxinoscopelaw18_GroupAgain.l0 k b aw (t.length : Int) ⟨t.toArray⟩ (i : Int) = praxinoscopelaw18_GroupAgain.l0 (k - m) b aw (t.length : Int) ⟨t.toArray⟩ (t.length : Int) := by
  induction m with
  | zero => intro k i hi hk; obtain rfl : i = t.length := by omega
            rfl
  | succ m ih =>
    intro k i hi hk
    obtain ⟨k, rfl⟩ : ∃ q, k = q + 1 := ⟨k - 1, by omega⟩
    have hl := h.1
    have hb1 := hb.1
    conv => lhs; simp only [praxinoscopelaw18_GroupAgain.l0]
    rw [if_pos (by omega), if_pos (by omega), ba_size, if_pos (by omega), Int.tdiv_eq_ediv_of_nonneg (by omega), Int.tmod_eq_emod_of_nonneg (by omega), w64 ((i : Int) / 8) (by omega) (by omega), if_pos (by omega), if_pos (by omega), w64 (7 - _) (by omega) (by omega)]
    have hu : IntKind.u64.wrap (7 - (i : Int) % 8) = 7 - (i : Int) % 8 := by rw [IntKind.wrap_u64]; omega
    rw [hu, if_pos (by omega)]
    have hg := hb.getD (i / 8)
    have e1 : ((i : Int) / 8).toNat = i / 8 := by omega
    have e2 : min (7 - (i : Int) % 8).toNat IntKind.u8.bits = 7 - i % 8 := by
      have : IntKind.u8.bits = 8 := rfl
      omega
    unfold shr rd
    rw [e1, e2]
    have hd := div_pow_le _ (7 - i % 8) hg.1 hg.2
    rw [w64 (b.getD (i / 8) 0 / 2 ^ (7 - i % 8)) (by omega) (by omega), Int.tmod_eq_emod_of_nonneg (by omega)]
    have hbit := h.2 i (by omega)
    rw [Nat.zero_add, List.getD_eq_getElem?_getD, List.getElem?_eq_getElem (show i < t.length by omega), Option.getD_some] at hbit
    unfold bitB at hbit
    rw [hbit, bt_list t i (by omega)]
    have hc : ((((t[i]'(by omega)).toNat : Int)) - 48) % 256 = bv (t[i]'(by omega)) := by
      rcases ht (t[i]'(by omega)) (List.getElem_mem _) with h | h <;> rw [h] <;> decide
    rw [if_pos hc, w64 _ (by omega) (by omega), show ((i : Int) + 1) = ((i + 1 : Nat) : Int) from by omega, ih k (i + 1) (by omega) (by omega)]
    rw [show k + 1 - (m + 1) = k - m from by omega]

theorem bitB_take (b : List Int) (q j : Nat) (hj : j < 8 * q) : bitB (b.take q) j = bitB b j := by
  unfold bitB
  rw [List.getD_eq_getElem?_getD, List.getD_eq_getElem?_getD, List.getElem?_take, if_pos (by omega)]

theorem GroupAgain : praxinoscopelaw18_GroupAgain.Pure := by
  intro l0 m0 m0' w0
  have hb := OkB.of_wf m0' w0
  obtain ⟨K, hK⟩ : ∃ K : Nat, K = 2000 := ⟨_, rfl⟩
  refine ⟨K + 402, ?_⟩
  unfold praxinoscopelaw18_GroupAgain.f
  rw [awake18 _ (by omega), Option.bind_some]
  by_cases c1 : (l0.length : Int) > 100
  · rw [if_pos c1]
  rw [if_neg c1]
  rcases get_any l0 hb (K + 402) (by omega) with ⟨c, s, h1, h2, hs, hn, hr, hg⟩ | ⟨e, he, hg⟩
  · have hpl := putL_length c s
    have hpb := putL_bin c s
    have hrl := hr.1
    rw [hg, Option.bind_some]
    simp only [if_true]
    rw [group_Put_eq c s h1 h2 hs hn (K + 402) (by omega), Option.bind_some]
    simp only [if_true]
    rw [bits18 _ (by omega) hpb (K + 402) (by omega), Option.bind_some]
    simp only [if_true]
    rw [ba_size, hpl, if_pos rfl, w64 _ (by omega) (by omega), if_neg (by omega), decide_eq_false (by omega)]
    simp only [praxinoscopelaw18_GroupAgain.j0]
    rw [if_neg (by decide), ← hpl]
    have hl := again_loop l0 hb (putL c s) hpb hr (by omega) true (putL c s).length (K + 401) 0 (by omega) (by omega)
    rw [show ((0 : Nat) : Int) = 0 from rfl] at hl
    rw [hl]
    obtain ⟨q, hq⟩ : ∃ q, K + 401 - (putL c s).length = q + 1 := ⟨K + 400 - (putL c s).length, by omega⟩
    rw [hq]
    simp only [praxinoscopelaw18_GroupAgain.l0]
    rw [if_neg (by omega)]
    simp only [if_true]
    rw [w64 (((putL c s).length : Int) - 1) (by omega) (by omega), Int.tdiv_eq_ediv_of_nonneg (by omega), w64 _ (by omega) (by omega), if_pos (by omega), if_pos (by omega)]
    obtain ⟨z, hz⟩ : ∃ z : Nat, ((((putL c s).length : Int) - 1) / 8).toNat = z := ⟨_, rfl⟩
    rw [hz]
    have hz1 : 8 * z < (putL c s).length := by omega
    have htl : (l0.take z).length = z := by rw [List.length_take]; omega
    have ho : OkB (l0.take z) := ⟨by rw [htl]; omega, fun y hy => hb.2 y (List.mem_of_mem_take hy)⟩
    have hsh : Short (l0.take z) 0 (putL c s) := by
      refine ⟨by rw [htl]; omega, fun j hj hl => ?_⟩
      rw [htl] at hl
      rw [bitB_take l0 z _ hl]
      exact hr.2 j hj
    rw [gets18 (get_short _ ho c s h1 h2 hn q (by omega) hsh), Option.bind_some]
  · rw [hg, Option.bind_some]
    simp only []
    rw [if_neg he]
    simp

end Go.Proofs.Ytjbpcffmeaadeaa.Pure
