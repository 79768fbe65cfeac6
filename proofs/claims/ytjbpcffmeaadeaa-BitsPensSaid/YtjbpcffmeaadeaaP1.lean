import Derived.Test.YtjbpcffmeaadeaaM2
import Derived.OwnWalk
/- Pens: what a pen holds, and what write does to it. -/
namespace Go.Proofs.Ytjbpcffmeaadeaa.Pp
open Go.RowKit Go.Proofs.Ytjbpcffmeaadeaa.Pr Go.Proofs.YtjbpcffmeaadeaaW.PrintWords Go.Proofs.YtjbpcffmeaadeaaW.PrintLast Go.Proofs.YtjbpcffmeaadeaaW.PrintMore

/-- The bytes hold the bits, noughts behind them. -/
structure Packs (L bs : List Int) : Prop where
  ok : OkB bs
  len : bs.length = (L.length + 7) / 8
  bit : ∀ j, bitB bs j = if j < L.length then L.getD j 0 else 0
  bin : ∀ x ∈ L, x = 0 ∨ x = 1

theorem bitB_ge (bs : List Int) (j : Nat) (h : 8 * bs.length ≤ j) : bitB bs j = 0 := by
  unfold bitB
  rw [List.getD_eq_getElem?_getD, List.getElem?_eq_none (by omega)]
  simp

theorem bitB_snoc0 (bs : List Int) (j : Nat) : bitB (bs ++ [0]) j = bitB bs j := by
  unfold bitB
  by_cases h : j / 8 < bs.length
  · rw [List.getD_eq_getElem?_getD, List.getD_eq_getElem?_getD, List.getElem?_append_left h]
  · by_cases h2 : j / 8 = bs.length
    · rw [List.getD_eq_getElem?_getD, List.getD_eq_getElem?_getD, List.getElem?_append_right (by omega), List.getElem?_eq_none (show bs.length ≤ j / 8 by omega)]
      simp [h2]
    · rw [List.getD_eq_getElem?_getD, List.getD_eq_getElem?_getD, List.getElem?_eq_none (by simp; omega), List.getElem?_eq_none (show bs.length ≤ j / 8 by omega)]

/-- What write makes of the bytes. -/
def grown (L bs : List Int) : List Int := if L.length % 8 = 0 then bs ++ [0] else bs
def wrote (L bs : List Int) (x : Int) : List Int :=
  (grown L bs).set (L.length / 8) (Go.bits .or .u8 ((grown L bs).getD (L.length / 8) 0) (x * 2 ^ (7 - L.length % 8)))

theorem or_zero : ∀ v < 256, Go.bits .or .u8 (v : Nat) 0 = (v : Nat) := by decide +kernel

theorem Packs.wrote {L bs : List Int} (h : Packs L bs) (x : Int) (hx : x = 0 ∨ x = 1) (hl : L.length < 16777216) : Packs (L ++ [x]) (wrote L bs x) := by
  have hlen := h.len
  have hgl : L.length / 8 < (grown L bs).length := by
    unfold grown; split
    · simp; omega
    · omega
  have hgok : OkB (grown L bs) := by
    unfold grown; split
    · refine ⟨by simp; omega, fun y hy => ?_⟩
      rcases List.mem_append.mp hy with h' | h'
      · exact h.ok.2 y h'
      · simp at h'; subst h'; omega
    · exact h.ok
  have hgb : ∀ j, bitB (grown L bs) j = if j < L.length then L.getD j 0 else 0 := by
    intro j; unfold grown; split
    · rw [bitB_snoc0]; exact h.bit j
    · exact h.bit j
  have hlg : (grown L bs).length = (L.length + 1 + 7) / 8 := by
    unfold grown; split
    · simp; omega
    · omega
  have hLx : ∀ j, (if j < (L ++ [x]).length then (L ++ [x]).getD j 0 else 0) = if j = L.length then x else if j < L.length then L.getD j 0 else 0 := by
    intro j
    by_cases h1 : j = L.length
    · subst h1; rw [if_pos (by simp), if_pos rfl, List.getD_eq_getElem?_getD, List.getElem?_append_right (by omega)]; simp
    · by_cases h2 : j < L.length
      · rw [if_pos (by simp; omega), if_neg h1, if_pos h2, List.getD_eq_getElem?_getD, List.getElem?_append_left h2, ← List.getD_eq_getElem?_getD]
      · rw [if_neg (by simp; omega), if_neg h1, if_neg h2]
  refine ⟨?_, by unfold Pp.wrote; rw [List.length_set, hlg]; simp, fun j => ?_, fun y hy => ?_⟩
  · rcases hx with rfl | rfl
    · unfold Pp.wrote
      have hg := hgok.getD (L.length / 8)
      obtain ⟨v, hv⟩ : ∃ v : Nat, (grown L bs).getD (L.length / 8) 0 = (v : Int) := ⟨((grown L bs).getD (L.length / 8) 0).toNat, by omega⟩
      rw [Int.zero_mul, hv, or_zero v (by omega)]
      refine ⟨by rw [List.length_set]; exact hgok.1, fun y hy => ?_⟩
      rcases List.mem_or_eq_of_mem_set hy with h' | h'
      · exact hgok.2 y h'
      · rw [h']; omega
    · unfold Pp.wrote; rw [Int.one_mul]; exact set_ok _ hgok _
  · rw [hLx j]
    rcases hx with rfl | rfl
    · unfold Pp.wrote
      have hg := hgok.getD (L.length / 8)
      obtain ⟨v, hv⟩ : ∃ v : Nat, (grown L bs).getD (L.length / 8) 0 = (v : Int) := ⟨((grown L bs).getD (L.length / 8) 0).toNat, by omega⟩
      have hs : (grown L bs).set (L.length / 8) ((grown L bs).getD (L.length / 8) 0) = grown L bs := by
        rw [List.getD_eq_getElem?_getD, List.getElem?_eq_getElem hgl, Option.getD_some, List.set_getElem_self]
      rw [Int.zero_mul, hv, or_zero v (by omega), ← hv, hs, hgb j]
      by_cases h1 : j = L.length
      · subst h1; rw [if_pos rfl, if_neg (by omega)]
      · rw [if_neg h1]
    · unfold Pp.wrote
      rw [Int.one_mul, set_bit _ hgok L.length hgl j, hgb j]
  · rcases List.mem_append.mp hy with h' | h'
    · exact h.bin y h'
    · simp at h'; subst h'; exact hx
theorem Packs.nil : Packs [] [] := ⟨⟨by simp, by simp⟩, rfl, fun j => by simp [bitB], by simp⟩

/-- The bits tell the bytes. -/
theorem byte_ext : ∀ a < 256, ∀ b < 256, (∀ e < 8, a / 2 ^ e % 2 = b / 2 ^ e % 2) → a = b := by
  intro a ha b hb h
  have h0 := h 0 (by omega)
  have h1 := h 1 (by omega)
  have h2 := h 2 (by omega)
  have h3 := h 3 (by omega)
  have h4 := h 4 (by omega)
  have h5 := h 5 (by omega)
  have h6 := h 6 (by omega)
  have h7 := h 7 (by omega)
  omega
theorem Packs.unique {L a b : List Int} (h : Packs L a) (g : Packs L b) : a = b := by
  apply List.ext_getElem (by rw [h.len, g.len])
  intro i h1 h2
  have ha := h.ok.2 _ (List.getElem_mem h1)
  have hb := g.ok.2 _ (List.getElem_mem h2)
  have key : ∀ e < 8, a[i] / 2 ^ e % 2 = b[i] / 2 ^ e % 2 := by
    intro e he
    have hh := (h.bit (8 * i + (7 - e))).trans (g.bit (8 * i + (7 - e))).symm
    unfold bitB at hh
    rw [show (8 * i + (7 - e)) / 8 = i from by omega, show 7 - (8 * i + (7 - e)) % 8 = e from by omega, List.getD_eq_getElem?_getD, List.getD_eq_getElem?_getD, List.getElem?_eq_getElem h1, List.getElem?_eq_getElem h2] at hh
    exact hh
  obtain ⟨x, hx⟩ : ∃ x : Nat, a[i] = (x : Int) := ⟨a[i].toNat, by omega⟩
  obtain ⟨y, hy⟩ : ∃ y : Nat, b[i] = (y : Int) := ⟨b[i].toNat, by omega⟩
  rw [hx, hy] at key ⊢
  have := byte_ext x (by omega) y (by omega) (fun e he => by have := key e he; exact_mod_cast this)
  omega
end Go.Proofs.Ytjbpcffmeaadeaa.Pp
