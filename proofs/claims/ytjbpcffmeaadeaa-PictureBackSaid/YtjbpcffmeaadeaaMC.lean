import Derived.Test.YtjbpcffmeaadeaaM4
import Derived.Test.YtjbpcffmeaadeaaP6
/- Plain laws of PictureBack: what Get answers where a header's bits stand, and where the bytes end in them. -/
namespace Go.Proofs.Ytjbpcffmeaadeaa.Pc
open Go.RowKit Go.Proofs.Ytjbpcffmeaadeaa.Pr Go.Proofs.Ytjbpcffmeaadeaa.Pp Go.Proofs.YtjbpcffmeaadeaaW.PrintWords Go.Proofs.YtjbpcffmeaadeaaW.PrintLast Go.Proofs.YtjbpcffmeaadeaaW.PrintMore

theorem bitB_take (b : List Int) (e j : Nat) (h : j < 8 * e) : bitB (b.take e) j = bitB b j := by
  unfold bitB
  rw [List.getD_eq_getElem?_getD, List.getD_eq_getElem?_getD, List.getElem?_take_of_lt (by omega)]
theorem numB_take (b : List Int) (e i n : Nat) (h : i + n ≤ 8 * e) : numB (b.take e) i n = numB b i n := by
  induction n with
  | zero => rfl
  | succ n ih => simp only [numB]; rw [ih (by omega), bitB_take b e _ (by omega)]
theorem num_of {b : List Int} {i m : Nat} {n : Int} (h : Reads b i (digs n m)) (h0 : 0 ≤ n) (h1 : n < 2 ^ m) : numB b i m = n := by
  rw [Reads.num m h, Int.emod_eq_of_lt h0 h1]

theorem sp_exact (b : List Int) : ∀ (r : List Int) (f : Nat) (acc : List Int) (p : Nat), OkB r → acc.length + r.length ≤ 32 → r.length < f → Reads b p (spares r ++ [48]) →
    spP b f acc (p : Int) 0 = (acc ++ r, ((p + 9 * r.length + 1 : Nat) : Int), 0)
  | [], f, acc, p, _, _, hf, h => by
    have h' : Reads b p (48 :: []) := by simpa [spares] using h
    have hb := h'.cons.1
    have hl := h'.1
    rw [spP_stop (take_in1 b p (by simpa using hl)) (by rw [hb]; decide) f (by simpa using hf), List.append_nil]
    simp
  | x :: r, f, acc, p, hr, hn, hf, h => by
    have h' : Reads b p (49 :: (digs x 8 ++ (spares r ++ [48]))) := by
      have := h; rw [spares_cons] at this; simpa using this
    obtain ⟨hb, h2⟩ := h'.cons
    obtain ⟨h3, h4⟩ := h2.split
    rw [digs_length] at h4
    have hl := h3.1
    rw [digs_length] at hl
    have hx := hr.2 x (by simp)
    have hnum := num_of h3 (by omega) (by omega)
    have t1 := take_in1 b p (by omega)
    rw [show bitB b p = 1 from hb] at t1
    have t2 := take_in8 b (p + 1) (by omega)
    rw [hnum] at t2
    simp only [List.length_cons] at hn hf
    obtain ⟨f, rfl⟩ : ∃ q, f = q + 1 := ⟨f - 1, by omega⟩
    rw [spP_more t1 (by omega) t2, sp_exact b r f (acc ++ [x]) (p + 1 + 8) ⟨by have := hr.1; simp at this; omega, fun y hy => hr.2 y (by simp [hy])⟩ (by simp; omega) (by omega) h4]
    simp only [List.append_assoc, List.singleton_append, List.length_cons]
    congr 3
    omega
theorem sp_short (b : List Int) (e : Nat) (he : e ≤ b.length) : ∀ (r : List Int) (f : Nat) (acc : List Int) (p : Nat), acc.length + r.length ≤ 32 → r.length < f → Reads b p (spares r ++ [48]) → p ≤ 8 * e → 8 * e < p + 9 * r.length + 1 →
    ∃ acc' a, spP (b.take e) f acc (p : Int) 0 = (acc', a, 5) := by
  have hlen : (b.take e).length = e := by rw [List.length_take]; omega
  intro r
  induction r with
  | nil =>
    intro f acc p _ hf h hp hs
    simp only [List.length_nil] at hs hf
    exact ⟨_, _, spP_stop (take_short1 (b.take e) p (by rw [hlen]; omega)) (by decide) f (by omega)⟩
  | cons x r ih =>
    intro f acc p hn hf h hp hs
    simp only [List.length_cons] at hn hf hs
    by_cases c1 : 8 * e < p + 1
    · exact ⟨_, _, spP_stop (take_short1 (b.take e) p (by rw [hlen]; omega)) (by decide) f (by omega)⟩
    have h' : Reads b p (49 :: (digs x 8 ++ (spares r ++ [48]))) := by
      have := h; rw [spares_cons] at this; simpa using this
    obtain ⟨hb, h2⟩ := h'.cons
    obtain ⟨h3, h4⟩ := h2.split
    rw [digs_length] at h4
    have t1 := take_in1 (b.take e) p (by rw [hlen]; omega)
    rw [bitB_take b e p (by omega), show bitB b p = 1 from hb] at t1
    by_cases c2 : 8 * e < p + 1 + 8
    · exact ⟨_, _, spP_bad t1 (by omega) (take_short8 (b.take e) (p + 1) (by rw [hlen]; omega)) (by decide) f (by omega)⟩
    have t2 := take_in8 (b.take e) (p + 1) (by rw [hlen]; omega)
    obtain ⟨f, rfl⟩ : ∃ q, f = q + 1 := ⟨f - 1, by omega⟩
    rw [spP_more t1 (by omega) t2]
    exact ih f (acc ++ [numB (b.take e) (p + 1) 8]) (p + 1 + 8) (by simp; omega) (by omega) h4 (by omega) (by omega)

theorem get_exact (b : List Int) (hb : OkB b) (p : Nat) (t ty : Int) (s : List Int) (t0 : 0 ≤ t) (t1 : t ≤ 31) (y0 : 0 ≤ ty) (y1 : ty ≤ 63) (hs : OkB s) (hn : s.length ≤ 32) (h : Reads b p (picL t ty s)) :
    picture_Get.f b (p : Int) = some (t, ty, s, ((12 + 9 * s.length : Nat) : Int), 0) := by
  have hb1 := hb.1
  have hl := h.1
  rw [picL_length] at hl
  obtain ⟨h1, h2⟩ := Reads.split h
  rw [digs_length] at h2
  obtain ⟨h3, h4⟩ := Reads.split h2
  rw [digs_length] at h4
  unfold picture_Get.f
  rw [if_pos ⟨hb, by unfold in64; omega⟩]
  have k1 := take_in b p 5 (by omega) (by omega)
  rw [show ((5 : Nat) : Int) = 5 from rfl, num_of h1 t0 (by omega)] at k1
  have k2 := take_in b (p + 5) 6 (by omega) (by omega)
  rw [show ((6 : Nat) : Int) = 6 from rfl, num_of h3 y0 (by omega)] at k2
  rw [getP_of (by omega) k1 k2 (sp_exact b s 34 [] (p + 5 + 6) hs (by simpa using hn) (by omega) h4), if_pos rfl, List.nil_append, i64_w, w64 _ (by omega) (by omega)]
  congr 5
  omega
theorem get_short (b : List Int) (hb : OkB b) (p e : Nat) (he : e ≤ b.length) (t ty : Int) (s : List Int) (hn : s.length ≤ 32) (h : Reads b p (picL t ty s)) (hp : p ≤ 8 * e) (hs : 8 * e < p + 12 + 9 * s.length) :
    picture_Get.f (b.take e) (p : Int) = some (0, 0, [], 0, 5) := by
  have hb1 := hb.1
  have hlen : (b.take e).length = e := by rw [List.length_take]; omega
  have hok : OkB (b.take e) := ⟨by rw [hlen]; omega, fun x hx => hb.2 x (List.mem_of_mem_take hx)⟩
  obtain ⟨h1, h2⟩ := Reads.split h
  rw [digs_length] at h2
  obtain ⟨h3, h4⟩ := Reads.split h2
  rw [digs_length] at h4
  unfold picture_Get.f
  rw [if_pos ⟨hok, by unfold in64; omega⟩]
  by_cases c1 : 8 * e < p + 5
  · have t1 := take_short (b.take e) p 5 (by omega) (by rw [hlen]; exact c1)
    rw [show ((5 : Nat) : Int) = 5 from rfl] at t1
    rw [getP_of (by omega) t1 (take_bad _ _ 5 6 (by decide)) (spP_stop (take_bad _ _ 5 1 (by decide)) (by decide) 34 (by decide))]
    rfl
  have t1 := take_in (b.take e) p 5 (by omega) (by rw [hlen]; omega)
  rw [show ((5 : Nat) : Int) = 5 from rfl] at t1
  by_cases c2 : 8 * e < p + 5 + 6
  · have t2 := take_short (b.take e) (p + 5) 6 (by omega) (by rw [hlen]; exact c2)
    rw [show ((6 : Nat) : Int) = 6 from rfl] at t2
    rw [getP_of (by omega) t1 t2 (spP_stop (take_bad _ _ 5 1 (by decide)) (by decide) 34 (by decide))]
    rfl
  have t2 := take_in (b.take e) (p + 5) 6 (by omega) (by rw [hlen]; omega)
  rw [show ((6 : Nat) : Int) = 6 from rfl] at t2
  obtain ⟨acc', a, hsp⟩ := sp_short b e he s 34 [] (p + 5 + 6) (by simpa using hn) (by omega) h4 (by omega) (by omega)
  rw [getP_of (by omega) t1 t2 hsp]
  rfl

theorem cd_getD (s : ByteArray) (n j : Nat) (h : j < n) : (cd s n).getD j 0 = bt s (j : Int) - 48 := by
  induction n with
  | zero => omega
  | succ n ih =>
    simp only [cd]
    by_cases h1 : j < n
    · rw [List.getD_eq_getElem?_getD, List.getElem?_append_left (by rw [cd_length]; exact h1), ← List.getD_eq_getElem?_getD, ih h1]
    · obtain rfl : j = n := by omega
      rw [List.getD_eq_getElem?_getD, List.getElem?_append_right (by rw [cd_length]; omega), cd_length]
      simp
theorem binT_of {t : List UInt8} (h : Bin t) : BinT (⟨t.toArray⟩ : ByteArray) := by
  intro i hi
  rw [ba_size] at hi
  rw [bt_list t i hi]
  rcases h _ (List.getElem_mem hi) with h | h <;> rw [h]
  · exact .inl rfl
  · exact .inr rfl
/-- Bits that a text put, behind others, are read as the text. -/
theorem reads_packs {A B bs : List Int} {t : List UInt8} (ht : Bin t) (h : Packs ((A ++ cd (⟨t.toArray⟩ : ByteArray) t.length) ++ B) bs) : Reads bs A.length t := by
  have hl := h.len
  have hL : ((A ++ cd (⟨t.toArray⟩ : ByteArray) t.length) ++ B).length = A.length + t.length + B.length := by simp [cd_length]; omega
  refine ⟨by omega, fun j hj => ?_⟩
  rw [h.bit, hL, if_pos (by omega), List.getD_eq_getElem?_getD, List.getElem?_append_left (by simp [cd_length]; omega), List.getElem?_append_right (by omega), show A.length + j - A.length = j from by omega, ← List.getD_eq_getElem?_getD, cd_getD _ _ _ hj, bt_list t j hj, List.getD_eq_getElem?_getD, List.getElem?_eq_getElem hj, Option.getD_some]
  rcases ht _ (List.getElem_mem hj) with h | h <;> rw [h] <;> decide
end Go.Proofs.Ytjbpcffmeaadeaa.Pc
