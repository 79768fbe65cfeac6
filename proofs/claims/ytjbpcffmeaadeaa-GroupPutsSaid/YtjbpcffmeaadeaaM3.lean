import Derived.Test.YtjbpcffmeaadeaaM2
import Derived.Test.YtjbpcffmeaadeaaTopG1
/- Plain laws on groups: what group.Put, Start, Whole, Get and Open come to. -/
namespace Go.Proofs.Ytjbpcffmeaadeaa.Pr
open Go.RowKit Go.Proofs.YtjbpcffmeaadeaaW.PrintWords Go.Proofs.YtjbpcffmeaadeaaW.PrintLast Go.Proofs.YtjbpcffmeaadeaaW.PrintMore

theorem mono_le {α : Type} (f : Nat → Option α) (h : ∀ k, LeO (f k) (f (k + 1))) {k k' : Nat} (hk : k ≤ k') {r : α} (hr : f k = some r) : f k' = some r := by
  induction hk with
  | refl => exact hr
  | step _ ih => exact h _ r ih

def spares (s : List Int) : List UInt8 := s.flatMap fun x => 49 :: digs x 8
def putL (c : Int) (s : List Int) : List UInt8 := digs c 5 ++ (spares s ++ [48])
theorem spares_cons (x : Int) (s : List Int) : spares (x :: s) = 49 :: (digs x 8 ++ spares s) := by simp [spares]
theorem spares_length (s : List Int) : (spares s).length = 9 * s.length := by
  induction s with
  | nil => rfl
  | cons x s ih => rw [spares_cons]; simp only [List.length_cons, List.length_append, digs_length, ih]; omega
theorem spares_bin (s : List Int) : Bin (spares s) := by
  induction s with
  | nil => intro c hc; simp [spares] at hc
  | cons x s ih =>
    rw [spares_cons]
    intro c hc
    rcases List.mem_cons.mp hc with h | h
    · exact .inr h
    · exact (digs_bin x 8).append ih c h
theorem putL_length (c : Int) (s : List Int) : (putL c s).length = 6 + 9 * s.length := by
  unfold putL; simp only [List.length_append, digs_length, spares_length, List.length_cons, List.length_nil]; omega
theorem putL_bin (c : Int) (s : List Int) : Bin (putL c s) := by
  refine (digs_bin c 5).append ((spares_bin s).append ?_)
  intro c hc; simp at hc; exact .inl hc

theorem number_eq (t : List UInt8) (n : Int) (m : Nat) (hm : m ≤ 64) (h0 : 0 ≤ n) (h1 : n ≤ 9223372036854775807) (ht : t.length ≤ 1000000) :
    group_text_number.f ⟨t.toArray⟩ n (m : Int) = some ⟨(t ++ digs n m).toArray⟩ := by
  unfold group_text_number.f
  rw [if_pos ⟨by omega, by omega, ⟨h0, h1⟩, by rw [ba_size]; omega⟩, show ((m : Int)).toNat = m from by omega, ba_app]

theorem rd_nat (l : List Int) (i : Nat) : rd l (i : Int) = l.getD i 0 := by unfold rd; rw [show ((i : Int)).toNat = i from by omega]

theorem spare_loop (s : List Int) (hs : OkB s) (hn : s.length ≤ 1000) (m : Nat) : ∀ (k : Nat) (t : List UInt8) (i : Nat), i + m = s.length → m < k → t.length ≤ 100000 + 9 * i →
    group_text_spare.l0 k ⟨t.toArray⟩ s (s.length : Int) (i : Int) = some ⟨(t ++ (spares (s.drop i) ++ [48])).toArray⟩ := by
  induction m with
  | zero =>
    intro k t i hi hk ht
    obtain ⟨k, rfl⟩ : ∃ q, k = q + 1 := ⟨k - 1, by omega⟩
    simp only [group_text_spare.l0]
    rw [if_neg (by omega), show (1 : Int) = ((1 : Nat) : Int) from rfl, number_eq t 0 1 (by omega) (by omega) (by omega) (by omega), List.drop_eq_nil_of_le (by omega)]
    rfl
  | succ m ih =>
    intro k t i hi hk ht
    obtain ⟨k, rfl⟩ : ∃ q, k = q + 1 := ⟨k - 1, by omega⟩
    have hg := hs.getD i
    simp only [group_text_spare.l0]
    rw [if_pos (by omega), if_pos (by omega), if_pos (by omega), rd_nat, w64 (s.getD i 0) (by omega) (by omega), w64 ((i : Int) + 1) (by omega) (by omega)]
    have e1 : group_text_number.f ⟨t.toArray⟩ 1 1 = some ⟨(t ++ digs 1 1).toArray⟩ := number_eq t 1 1 (by omega) (by omega) (by omega) (by omega)
    rw [e1, Option.bind_some]
    have e2 : group_text_number.f ⟨(t ++ digs 1 1).toArray⟩ (s.getD i 0) 8 = some ⟨(t ++ digs 1 1 ++ digs (s.getD i 0) 8).toArray⟩ :=
      number_eq (t ++ digs 1 1) (s.getD i 0) 8 (by omega) (by omega) (by omega) (by rw [List.length_append, digs_length]; omega)
    rw [e2, Option.bind_some]
    have := ih k (t ++ digs 1 1 ++ digs (s.getD i 0) 8) (i + 1) (by omega) (by omega) (by simp only [List.length_append, digs_length]; omega)
    rw [show ((i : Int) + 1) = ((i + 1 : Nat) : Int) from by omega, this, List.drop_eq_getElem_cons (show i < s.length by omega), spares_cons]
    rw [List.getD_eq_getElem?_getD, List.getElem?_eq_getElem (by omega), Option.getD_some]
    have ed : digs 1 1 = [49] := by decide
    rw [ed]
    simp only [List.append_assoc, List.cons_append, List.nil_append]

theorem group_Put_eq (c : Int) (s : List Int) (h1 : 1 ≤ c) (h2 : c ≤ 31) (hs : OkB s) (hn : s.length ≤ 32) (k : Nat) (hk : s.length + 2 ≤ k) :
    group_Put.f k c s = some (⟨(putL c s).toArray⟩, 0) := by
  obtain ⟨k, rfl⟩ : ∃ q, k = q + 1 := ⟨k - 1, by omega⟩
  unfold group_Put.f
  rw [if_neg (by omega), if_neg (by omega), decide_eq_false (by omega)]
  simp only [group_Put.j0]
  rw [if_neg (by decide)]
  have e1 : group_text_number.f (⟨#[]⟩ : ByteArray) c 5 = some ⟨([] ++ digs c 5).toArray⟩ := number_eq [] c 5 (by omega) (by omega) (by omega) (by simp)
  rw [e1, Option.bind_some, List.nil_append]
  unfold group_text_spare.f
  have := spare_loop s hs (by omega) s.length k (digs c 5) 0 (by omega) (by omega) (by rw [digs_length]; omega)
  rw [show ((0 : Nat) : Int) = 0 from rfl, List.drop_zero] at this
  rw [this]
  rfl
theorem group_Put_no (c : Int) (s : List Int) (h : c < 1 ∨ 31 < c ∨ 32 < s.length) (k : Nat) (hk : 1 ≤ k) : group_Put.f k c s = some (⟨#[]⟩, 2) := by
  obtain ⟨k, rfl⟩ : ∃ q, k = q + 1 := ⟨k - 1, by omega⟩
  unfold group_Put.f
  by_cases h1 : c < 1
  · rw [if_pos h1]; simp [group_Put.j0]
  by_cases h2 : c > 31
  · rw [if_neg h1, if_pos h2]; simp [group_Put.j0]
  rw [if_neg h1, if_neg h2, decide_eq_true (by omega)]; simp [group_Put.j0]

def startL (p : Int) : List UInt8 := digs 1 16 ++ digs p 4
theorem group_Start_eq (p : Int) (h0 : 0 ≤ p) (h1 : p ≤ 15) (k : Nat) (hk : 1 ≤ k) : group_Start.f k p = some (⟨(startL p).toArray⟩, 0) := by
  obtain ⟨k, rfl⟩ : ∃ q, k = q + 1 := ⟨k - 1, by omega⟩
  unfold group_Start.f
  rw [if_neg (by omega), decide_eq_false (by omega)]
  simp only [group_Start.j0]
  rw [if_neg (by decide)]
  have e1 : group_text_number.f (⟨#[]⟩ : ByteArray) 1 16 = some ⟨([] ++ digs 1 16).toArray⟩ := number_eq [] 1 16 (by omega) (by omega) (by omega) (by simp)
  have e2 : group_text_number.f ⟨([] ++ digs 1 16).toArray⟩ p 4 = some ⟨(([] ++ digs 1 16) ++ digs p 4).toArray⟩ := number_eq _ p 4 (by omega) (by omega) (by omega) (by simp [digs_length])
  rw [e1, Option.bind_some, e2, Option.bind_some, List.nil_append]
  rfl
theorem startL_length (p : Int) : (startL p).length = 20 := by simp [startL, digs_length]
theorem startL_bin (p : Int) : Bin (startL p) := (digs_bin 1 16).append (digs_bin p 4)

def wholeL (p c : Int) (s : List Int) : List UInt8 := startL p ++ putL c s
theorem group_Whole_eq (p c : Int) (s : List Int) (h0 : 1 ≤ p) (h1 : p ≤ 15) (c1 : 1 ≤ c) (c2 : c ≤ 31) (hs : OkB s) (hn : s.length ≤ 32) (k : Nat) (hk : s.length + 2 ≤ k) :
    group_Whole.f k p c s = some (⟨(wholeL p c s).toArray⟩, 0) := by
  unfold group_Whole.f
  rw [if_neg (by omega), group_Start_eq p (by omega) h1 k (by omega), Option.bind_some, if_pos rfl, group_Put_eq c s c1 c2 hs hn k hk, Option.bind_some, if_pos rfl]
  rw [if_pos (by simp only [ba_size, startL_length, putL_length]; omega), ba_app]
  rfl

/-! ### Get -/
theorem digs_mod (n : Int) (m : Nat) : ∀ q : Int, digs (n + 2 ^ m * q) m = digs n m := by
  induction m with
  | zero => intro q; rfl
  | succ m ih =>
    intro q
    have hp : (0 : Int) < 2 ^ m := Int.pow_pos (by decide)
    have e : n + 2 ^ (m + 1) * q = n + 2 ^ m * (2 * q) := by rw [Int.pow_succ, Int.mul_assoc]
    simp only [digs]
    rw [e, ih (2 * q)]
    congr 1
    unfold dg
    rw [Int.add_mul_ediv_left _ _ (by omega)]
    have : (n / 2 ^ m + 2 * q) % 2 = n / 2 ^ m % 2 := by omega
    rw [this]
theorem Reads.of_num (b : List Int) (m : Nat) : ∀ i, i + m ≤ 8 * b.length → Reads b i (digs (numB b i m) m) := by
  induction m with
  | zero => intro i h; exact ⟨by simpa [digs] using h, fun j hj => by simp [digs] at hj⟩
  | succ m ih =>
    intro i h
    have hp : (0 : Int) < 2 ^ m := Int.pow_pos (by decide)
    have hr := numB_range b (i + 1) m
    have hd : digs (numB b i (m + 1)) (m + 1) = [dg (numB b i (m + 1)) m] ++ digs (numB b (i + 1) m) m := by
      simp only [digs, List.cons_append, List.nil_append]
      congr 1
      rw [numB_front, Int.add_comm, Int.mul_comm]
      exact digs_mod _ _ _
    rw [hd]
    refine Reads.join ⟨by simp; omega, fun j hj => ?_⟩ (by simpa using ih (i + 1) (by omega))
    obtain rfl : j = 0 := by simpa using hj
    simp only [List.getD_cons_zero, Nat.add_zero]
    rw [bv_dg, numB_front, Int.add_comm, Int.mul_comm, Int.add_mul_ediv_left _ _ (by omega), Int.ediv_eq_zero_of_lt hr.1 hr.2]
    have := bitB_01 b i
    omega

theorem readP_in (b : List Int) (i m : Nat) (hm : m ≤ 32) (h : i + m ≤ 8 * b.length) : Pr.readP b (i : Int) (m : Int) = (numB b i m, 0) := by
  unfold Pr.readP
  rw [if_neg (by omega), if_neg (by omega), show ((i : Int)).toNat = i from by omega, show ((m : Int)).toNat = m from by omega]
theorem readP_short (b : List Int) (i m : Nat) (hm : m ≤ 32) (h : 8 * b.length < i + m) : Pr.readP b (i : Int) (m : Int) = (0, 5) := by
  unfold Pr.readP
  rw [if_neg (by omega), if_pos (by omega)]
theorem readP_in1 (b : List Int) (i : Nat) (h : i + 1 ≤ 8 * b.length) : Pr.readP b (i : Int) 1 = (bitB b i, 0) := by
  have := readP_in b i 1 (by omega) h
  rw [show ((1 : Nat) : Int) = 1 from rfl] at this
  rw [this]; simp [numB]
theorem readP_short1 (b : List Int) (i : Nat) (h : 8 * b.length < i + 1) : Pr.readP b (i : Int) 1 = (0, 5) := readP_short b i 1 (by omega) h

theorem wsum (a off : Nat) (h : a + off ≤ 2251799813685248) : wrap64 ((a : Int) + (off : Int)) = ((a + off : Nat) : Int) := by
  rw [w64 _ (by omega) (by omega)]; omega

theorem get_ok_loop (b : List Int) (hb : OkB b) (a : Nat) (c : Int) (r : List Int) : ∀ (k : Nat) (acc : List Int) (off : Nat), OkB r → acc.length + r.length ≤ 32 → r.length + 41 ≤ k →
    Reads b (a + off) (spares r ++ [48]) → group_Get.l0 k b (a : Int) c acc (off : Int) = some (c, acc ++ r, ((off + 9 * r.length + 1 : Nat) : Int), 0) := by
  induction r with
  | nil =>
    intro k acc off hr hn hk h
    obtain ⟨k, rfl⟩ : ∃ q, k = q + 1 := ⟨k - 1, by simp at hk; omega⟩
    have hl := h.1
    have hb1 := hb.1
    simp only [List.length_nil] at hk
    simp only [spares, List.flatMap_nil, List.nil_append, List.length_cons, List.length_nil] at h hl
    simp only [group_Get.l0]
    rw [wsum a off (by omega), bits_Read_eq b hb _ _ k (by omega), Option.bind_some, h.readP1]
    simp only [bv, if_true]
    rw [w64 _ (by omega) (by omega), List.append_nil]
    simp
  | cons x r ih =>
    intro k acc off hr hn hk h
    obtain ⟨k, rfl⟩ : ∃ q, k = q + 1 := ⟨k - 1, by simp at hk; omega⟩
    have hl := h.1
    have hb1 := hb.1
    simp only [List.length_cons] at hk hn
    rw [spares_cons] at h hl
    simp only [List.length_append, List.length_cons, digs_length, spares_length, List.length_nil] at hl
    have hx := hr.2 x (by simp)
    simp only [List.cons_append, List.append_assoc] at h
    have h2 := h.cons.2
    obtain ⟨h3, h4⟩ := h2.split
    rw [digs_length] at h4
    simp only [group_Get.l0]
    rw [wsum a off (by omega), bits_Read_eq b hb _ _ k (by omega), Option.bind_some, h.readP1]
    have eb : bv 49 = 1 := by decide
    simp only [eb, if_true]
    rw [if_neg (by decide), if_neg (by omega), w64 (((a + off : Nat) : Int) + 1) (by omega) (by omega), show (((a + off : Nat) : Int) + 1) = ((a + off + 1 : Nat) : Int) from by omega]
    have e8 := h3.readP (by omega) hx.1 (by omega)
    rw [show ((8 : Nat) : Int) = 8 from rfl] at e8
    rw [bits_Read_eq b hb _ _ k (by omega), Option.bind_some, e8]
    simp only [if_true]
    rw [if_pos (by omega), w64 ((off : Int) + 9) (by omega) (by omega), show ((off : Int) + 9) = ((off + 9 : Nat) : Int) from by omega, Int.emod_eq_of_lt hx.1 (by omega)]
    rw [ih k (acc ++ [x]) (off + 9) ⟨by have := hr.1; simp at this; omega, fun y hy => hr.2 y (List.mem_cons_of_mem _ hy)⟩ (by simp; omega) (by omega) (by rw [show a + (off + 9) = a + off + 1 + 8 from by omega]; exact h4)]
    simp only [List.append_assoc, List.singleton_append, List.length_cons]
    congr 4
    omega

theorem get_over_loop (b : List Int) (hb : OkB b) (a : Nat) (c : Int) (r : List Int) : ∀ (k : Nat) (acc : List Int) (off : Nat), OkB r → acc.length + r.length = 32 → r.length + 41 ≤ k →
    Reads b (a + off) (spares r ++ [49]) → group_Get.l0 k b (a : Int) c acc (off : Int) = some (0, [], 0, 4) := by
  induction r with
  | nil =>
    intro k acc off hr hn hk h
    obtain ⟨k, rfl⟩ : ∃ q, k = q + 1 := ⟨k - 1, by simp at hk; omega⟩
    have hl := h.1
    have hb1 := hb.1
    simp only [List.length_nil] at hk hn
    simp only [spares, List.flatMap_nil, List.nil_append, List.length_cons, List.length_nil] at h hl
    simp only [group_Get.l0]
    rw [wsum a off (by omega), bits_Read_eq b hb _ _ k (by omega), Option.bind_some, h.readP1]
    have eb : bv 49 = 1 := by decide
    simp only [eb, if_true]
    rw [if_neg (by decide), if_pos (by omega)]
  | cons x r ih =>
    intro k acc off hr hn hk h
    obtain ⟨k, rfl⟩ : ∃ q, k = q + 1 := ⟨k - 1, by simp at hk; omega⟩
    have hl := h.1
    have hb1 := hb.1
    simp only [List.length_cons] at hk hn
    rw [spares_cons] at h hl
    simp only [List.length_append, List.length_cons, digs_length, spares_length, List.length_nil] at hl
    have hx := hr.2 x (by simp)
    simp only [List.cons_append, List.append_assoc] at h
    have h2 := h.cons.2
    obtain ⟨h3, h4⟩ := h2.split
    rw [digs_length] at h4
    simp only [group_Get.l0]
    rw [wsum a off (by omega), bits_Read_eq b hb _ _ k (by omega), Option.bind_some, h.readP1]
    have eb : bv 49 = 1 := by decide
    simp only [eb, if_true]
    rw [if_neg (by decide), if_neg (by omega), w64 (((a + off : Nat) : Int) + 1) (by omega) (by omega), show (((a + off : Nat) : Int) + 1) = ((a + off + 1 : Nat) : Int) from by omega]
    have e8 := h3.readP (by omega) hx.1 (by omega)
    rw [show ((8 : Nat) : Int) = 8 from rfl] at e8
    rw [bits_Read_eq b hb _ _ k (by omega), Option.bind_some, e8]
    simp only [if_true]
    rw [if_pos (by omega), w64 ((off : Int) + 9) (by omega) (by omega), show ((off : Int) + 9) = ((off + 9 : Nat) : Int) from by omega, Int.emod_eq_of_lt hx.1 (by omega)]
    exact ih k (acc ++ [x]) (off + 9) ⟨by have := hr.1; simp at this; omega, fun y hy => hr.2 y (List.mem_cons_of_mem _ hy)⟩ (by simp; omega) (by omega) (by rw [show a + (off + 9) = a + off + 1 + 8 from by omega]; exact h4)

theorem get_head (b : List Int) (hb : OkB b) (a : Nat) (c : Int) (h1 : 1 ≤ c) (h2 : c ≤ 31) (t : List UInt8) (k : Nat) (hk : 41 ≤ k) (h : Reads b a (digs c 5 ++ t)) :
    group_Get.f k b (a : Int) = group_Get.l0 k b (a : Int) c [] 5 := by
  have hl := h.1
  have hb1 := hb.1
  simp only [List.length_append, digs_length] at hl
  unfold group_Get.f
  rw [if_neg (by omega), count_eq b hb, Option.bind_some, if_neg (by omega), bits_Read_eq b hb _ _ k (by omega), Option.bind_some]
  have e := h.split.1.readP (by omega) (by omega) (by omega)
  rw [show ((5 : Nat) : Int) = 5 from rfl] at e
  rw [e]
  simp only [if_true]
  rw [if_neg (by omega)]

theorem get_ok (b : List Int) (hb : OkB b) (a : Nat) (c : Int) (s : List Int) (h1 : 1 ≤ c) (h2 : c ≤ 31) (hs : OkB s) (hn : s.length ≤ 32) (k : Nat) (hk : s.length + 41 ≤ k) (h : Reads b a (putL c s)) :
    group_Get.f k b (a : Int) = some (c, s, ((6 + 9 * s.length : Nat) : Int), 0) := by
  rw [get_head b hb a c h1 h2 _ k (by omega) h]
  have h' := h.split.2
  rw [digs_length] at h'
  have := get_ok_loop b hb a c s k [] 5 hs (by simpa using hn) hk h'
  rw [show ((5 : Nat) : Int) = 5 from rfl] at this
  rw [this, List.nil_append]
  congr 4
  omega
theorem get_over (b : List Int) (hb : OkB b) (a : Nat) (c : Int) (s : List Int) (h1 : 1 ≤ c) (h2 : c ≤ 31) (hs : OkB s) (hn : s.length = 32) (k : Nat) (hk : s.length + 41 ≤ k) (h : Reads b a (digs c 5 ++ (spares s ++ [49]))) :
    group_Get.f k b (a : Int) = some (0, [], 0, 4) := by
  rw [get_head b hb a c h1 h2 _ k (by omega) h]
  have h' := h.split.2
  rw [digs_length] at h'
  exact get_over_loop b hb a c s k [] 5 hs (by simpa using hn) hk h'

/-- The bytes end within the text, and hold it so far as they go. -/
def Short (b : List Int) (i : Nat) (t : List UInt8) : Prop := 8 * b.length < i + t.length ∧ ∀ j, j < t.length → i + j < 8 * b.length → bitB b (i + j) = bv (t.getD j 48)
theorem Short.right {b : List Int} {i : Nat} {s t : List UInt8} (h : Short b i (s ++ t)) : Short b (i + s.length) t := by
  obtain ⟨h1, h2⟩ := h
  rw [List.length_append] at h1 h2
  refine ⟨by omega, fun j hj hl => ?_⟩
  rw [show i + s.length + j = i + (s.length + j) from by omega, h2 _ (by omega) (by omega), List.getD_eq_getElem?_getD, List.getElem?_append_right (by omega), show s.length + j - s.length = j from by omega, ← List.getD_eq_getElem?_getD]

theorem get_short_loop (b : List Int) (hb : OkB b) (a : Nat) (c : Int) (r : List Int) : ∀ (k : Nat) (acc : List Int) (off : Nat), acc.length + r.length ≤ 32 → r.length + 41 ≤ k → a + off ≤ 8 * b.length →
    Short b (a + off) (spares r ++ [48]) → group_Get.l0 k b (a : Int) c acc (off : Int) = some (0, [], 0, 5) := by
  induction r with
  | nil =>
    intro k acc off hn hk hl h
    obtain ⟨k, rfl⟩ : ∃ q, k = q + 1 := ⟨k - 1, by simp at hk; omega⟩
    have hb1 := hb.1
    simp only [List.length_nil] at hk
    have hs := h.1
    simp only [spares, List.flatMap_nil, List.nil_append, List.length_cons, List.length_nil] at hs
    simp only [group_Get.l0]
    rw [wsum a off (by omega), bits_Read_eq b hb _ _ k (by omega), Option.bind_some, readP_short1 b _ (by omega)]
    simp
  | cons x r ih =>
    intro k acc off hn hk hl h
    obtain ⟨k, rfl⟩ : ∃ q, k = q + 1 := ⟨k - 1, by simp at hk; omega⟩
    have hb1 := hb.1
    simp only [List.length_cons] at hk hn
    simp only [group_Get.l0]
    rw [wsum a off (by omega), bits_Read_eq b hb _ _ k (by omega), Option.bind_some]
    by_cases c1 : 8 * b.length < a + off + 1
    · rw [readP_short1 b _ c1]; simp
    rw [readP_in1 b _ (by omega)]
    have eb : bitB b (a + off) = 1 := by
      have := h.2 0 (by rw [spares_cons]; simp) (by omega)
      rw [spares_cons] at this
      simpa [bv] using this
    rw [eb]
    simp only [if_true]
    rw [if_neg (by decide), if_neg (by omega), w64 (((a + off : Nat) : Int) + 1) (by omega) (by omega), show (((a + off : Nat) : Int) + 1) = ((a + off + 1 : Nat) : Int) from by omega]
    rw [bits_Read_eq b hb _ _ k (by omega), Option.bind_some]
    by_cases c2 : 8 * b.length < a + off + 1 + 8
    · have := readP_short b (a + off + 1) 8 (by omega) c2
      rw [show ((8 : Nat) : Int) = 8 from rfl] at this
      rw [this]; simp
    have := readP_in b (a + off + 1) 8 (by omega) (by omega)
    rw [show ((8 : Nat) : Int) = 8 from rfl] at this
    rw [this]
    simp only [if_true]
    rw [if_pos (by omega), w64 ((off : Int) + 9) (by omega) (by omega), show ((off : Int) + 9) = ((off + 9 : Nat) : Int) from by omega]
    refine ih k _ (off + 9) (by simp; omega) (by omega) (by omega) ?_
    have h' : Short b (a + off) ((49 :: digs x 8) ++ (spares r ++ [48])) := by rw [spares_cons] at h; simpa using h
    have := h'.right
    rw [List.length_cons, digs_length] at this
    rw [show a + (off + 9) = a + off + (8 + 1) from by omega]
    exact this

theorem get_short (b : List Int) (hb : OkB b) (c : Int) (s : List Int) (h1 : 1 ≤ c) (h2 : c ≤ 31) (hn : s.length ≤ 32) (k : Nat) (hk : s.length + 41 ≤ k) (h : Short b 0 (putL c s)) :
    group_Get.f k b 0 = some (0, [], 0, 5) := by
  have hb1 := hb.1
  unfold group_Get.f
  rw [if_neg (by omega), count_eq b hb, Option.bind_some, if_neg (by omega), bits_Read_eq b hb _ _ k (by omega), Option.bind_some]
  by_cases c1 : 8 * b.length < 0 + 5
  · have := readP_short b 0 5 (by omega) c1
    rw [show ((5 : Nat) : Int) = 5 from rfl, show ((0 : Nat) : Int) = 0 from rfl] at this
    rw [this]; simp
  have hr : Reads b 0 (digs c 5) := by
    refine ⟨by rw [digs_length]; omega, fun j hj => ?_⟩
    rw [digs_length] at hj
    have := h.2 j (by rw [putL_length]; omega) (by omega)
    rw [this]
    unfold putL
    rw [List.getD_eq_getElem?_getD, List.getElem?_append_left (by rw [digs_length]; omega), ← List.getD_eq_getElem?_getD]
  have e := hr.readP (by omega) (by omega) (by omega)
  rw [show ((5 : Nat) : Int) = 5 from rfl, show ((0 : Nat) : Int) = 0 from rfl] at e
  rw [e]
  simp only [if_true]
  rw [if_neg (by omega)]
  have h' := h.right
  rw [digs_length] at h'
  exact get_short_loop b hb 0 c s k [] 5 (by simpa using hn) hk (by omega) h'

theorem get_any_loop (b : List Int) (hb : OkB b) (a : Nat) (c : Int) (m : Nat) : ∀ (k : Nat) (acc : List Int) (off : Nat), acc.length + m = 32 → m + 41 ≤ k → a + off ≤ 8 * b.length →
    (∃ r, OkB r ∧ acc.length + r.length ≤ 32 ∧ Reads b (a + off) (spares r ++ [48]) ∧ group_Get.l0 k b (a : Int) c acc (off : Int) = some (c, acc ++ r, ((off + 9 * r.length + 1 : Nat) : Int), 0)) ∨
    (∃ e, e ≠ 0 ∧ group_Get.l0 k b (a : Int) c acc (off : Int) = some (0, [], 0, e)) := by
  induction m with
  | zero =>
    intro k acc off hn hk hl
    obtain ⟨k, rfl⟩ : ∃ q, k = q + 1 := ⟨k - 1, by omega⟩
    have hb1 := hb.1
    simp only [group_Get.l0]
    rw [wsum a off (by omega), bits_Read_eq b hb _ _ k (by omega), Option.bind_some]
    by_cases c1 : 8 * b.length < a + off + 1
    · rw [readP_short1 b _ c1]; exact .inr ⟨5, by decide, by simp⟩
    rw [readP_in1 b _ (by omega)]
    simp only [if_true]
    rcases bitB_01 b (a + off) with e | e
    · rw [if_pos e]
      refine .inl ⟨[], ⟨by simp, by simp⟩, by simp; omega, ⟨by simp [spares]; omega, fun j hj => ?_⟩, ?_⟩
      · obtain rfl : j = 0 := by simpa [spares] using hj
        simpa [spares, bv] using e
      · rw [w64 _ (by omega) (by omega)]; simp
    · rw [if_neg (by omega), if_pos (by omega)]; exact .inr ⟨4, by decide, rfl⟩
  | succ m ih =>
    intro k acc off hn hk hl
    obtain ⟨k, rfl⟩ : ∃ q, k = q + 1 := ⟨k - 1, by omega⟩
    have hb1 := hb.1
    simp only [group_Get.l0]
    rw [wsum a off (by omega), bits_Read_eq b hb _ _ k (by omega), Option.bind_some]
    by_cases c1 : 8 * b.length < a + off + 1
    · rw [readP_short1 b _ c1]; exact .inr ⟨5, by decide, by simp⟩
    rw [readP_in1 b _ (by omega)]
    simp only [if_true]
    rcases bitB_01 b (a + off) with e | e
    · rw [if_pos e]
      refine .inl ⟨[], ⟨by simp, by simp⟩, by simp; omega, ⟨by simp [spares]; omega, fun j hj => ?_⟩, ?_⟩
      · obtain rfl : j = 0 := by simpa [spares] using hj
        simpa [spares, bv] using e
      · rw [w64 _ (by omega) (by omega)]; simp
    rw [if_neg (by omega), if_neg (by omega), w64 (((a + off : Nat) : Int) + 1) (by omega) (by omega), show (((a + off : Nat) : Int) + 1) = ((a + off + 1 : Nat) : Int) from by omega]
    rw [bits_Read_eq b hb _ _ k (by omega), Option.bind_some]
    by_cases c2 : 8 * b.length < a + off + 1 + 8
    · have := readP_short b (a + off + 1) 8 (by omega) c2
      rw [show ((8 : Nat) : Int) = 8 from rfl] at this
      rw [this]; exact .inr ⟨5, by decide, by simp⟩
    have h8 := readP_in b (a + off + 1) 8 (by omega) (by omega)
    rw [show ((8 : Nat) : Int) = 8 from rfl] at h8
    rw [h8]
    have hr := numB_range b (a + off + 1) 8
    simp only [if_true]
    rw [if_pos (by omega), w64 ((off : Int) + 9) (by omega) (by omega), show ((off : Int) + 9) = ((off + 9 : Nat) : Int) from by omega, Int.emod_eq_of_lt hr.1 (by omega)]
    rcases ih k (acc ++ [numB b (a + off + 1) 8]) (off + 9) (by simp; omega) (by omega) (by omega) with ⟨r, h1, h2, h3, h4⟩ | ⟨e, h1, h2⟩
    · refine .inl ⟨numB b (a + off + 1) 8 :: r, ⟨by simp at h2 ⊢; omega, fun y hy => ?_⟩, by simp at h2 ⊢; omega, ?_, ?_⟩
      · rcases List.mem_cons.mp hy with h | h
        · rw [h]; omega
        · exact h1.2 y h
      · rw [spares_cons]
        have : Reads b (a + off) ([49] ++ (digs (numB b (a + off + 1) 8) 8 ++ (spares r ++ [48]))) := by
          refine Reads.join ⟨by simp; omega, fun j hj => ?_⟩ (Reads.join (Reads.of_num b 8 _ (by simp; omega)) ?_)
          · obtain rfl : j = 0 := by simpa using hj
            simpa [bv] using e
          · rw [digs_length]; simpa [Nat.add_assoc] using h3
        simpa using this
      · rw [h4]
        simp only [List.append_assoc, List.singleton_append, List.length_cons]
        congr 4
        omega
    · exact .inr ⟨e, h1, h2⟩

/-- What Get answers, whatever the bytes. -/
theorem get_any (b : List Int) (hb : OkB b) (k : Nat) (hk : 80 ≤ k) :
    (∃ c s, 1 ≤ c ∧ c ≤ 31 ∧ OkB s ∧ s.length ≤ 32 ∧ Reads b 0 (putL c s) ∧ group_Get.f k b 0 = some (c, s, ((6 + 9 * s.length : Nat) : Int), 0)) ∨
    (∃ e, e ≠ 0 ∧ group_Get.f k b 0 = some (0, [], 0, e)) := by
  have hb1 := hb.1
  unfold group_Get.f
  rw [if_neg (by omega), count_eq b hb, Option.bind_some, if_neg (by omega), bits_Read_eq b hb _ _ k (by omega), Option.bind_some]
  by_cases c1 : 8 * b.length < 0 + 5
  · have := readP_short b 0 5 (by omega) c1
    rw [show ((5 : Nat) : Int) = 5 from rfl, show ((0 : Nat) : Int) = 0 from rfl] at this
    rw [this]; exact .inr ⟨5, by decide, by simp⟩
  have h5 := readP_in b 0 5 (by omega) (by omega)
  rw [show ((5 : Nat) : Int) = 5 from rfl, show ((0 : Nat) : Int) = 0 from rfl] at h5
  rw [h5]
  simp only [if_true]
  have hr := numB_range b 0 5
  by_cases hz : numB b 0 5 = 0
  · rw [if_pos hz]; exact .inr ⟨9, by decide, rfl⟩
  rw [if_neg hz]
  rcases get_any_loop b hb 0 (numB b 0 5) 32 k [] 5 (by simp) (by omega) (by omega) with ⟨r, h1, h2, h3, h4⟩ | ⟨e, h1, h2⟩
  · refine .inl ⟨numB b 0 5, r, by omega, by omega, h1, by simpa using h2, ?_, ?_⟩
    · refine Reads.join (Reads.of_num b 5 0 (by omega)) ?_
      rw [digs_length]; exact h3
    · rw [show ((5 : Nat) : Int) = 5 from rfl, show ((0 : Nat) : Int) = 0 from rfl] at h4
      rw [h4, List.nil_append]
      congr 4
      omega
  · exact .inr ⟨e, h1, h2⟩

/-! ### what the law's helpers come to -/
theorem gets18 {k : Nat} {b : List Int} {c n e : Int} {s : List Int} (h : group_Get.f k b 0 = some (c, s, n, e)) : praxinoscopelaw18_gets.f k b c s n e = some true := by
  unfold praxinoscopelaw18_gets.f
  rw [h, Option.bind_some]
  simp [praxinoscopekit_SameBytes.f]

theorem bits18_loop (t : List UInt8) (ht : t.length ≤ 1000000) (hb : Bin t) (m : Nat) : ∀ (k i : Nat), i + m = t.length → m < k → praxinoscopelaw18_bits.l0 k ⟨t.toArray⟩ (i : Int) = some true := by
  induction m with
  | zero =>
    intro k i hi hk
    obtain ⟨k, rfl⟩ : ∃ q, k = q + 1 := ⟨k - 1, by omega⟩
    simp only [praxinoscopelaw18_bits.l0]
    rw [ba_size, if_neg (by omega)]
  | succ m ih =>
    intro k i hi hk
    obtain ⟨k, rfl⟩ : ∃ q, k = q + 1 := ⟨k - 1, by omega⟩
    simp only [praxinoscopelaw18_bits.l0]
    rw [ba_size, if_pos (by omega), if_pos (by omega), bt_list t i (by omega), w64 _ (by omega) (by omega), show ((i : Int) + 1) = ((i + 1 : Nat) : Int) from by omega, ih k (i + 1) (by omega) (by omega)]
    rcases hb (t[i]'(by omega)) (List.getElem_mem _) with h | h
    · rw [h, if_pos (by decide)]
    · rw [h, if_neg (by decide), if_pos (by decide)]
theorem bits18 (t : List UInt8) (ht : t.length ≤ 1000000) (hb : Bin t) (k : Nat) (hk : t.length < k) : praxinoscopelaw18_bits.f k ⟨t.toArray⟩ = some true :=
  bits18_loop t ht hb t.length k 0 (by omega) hk

theorem firstOne_eq (b : List Int) (t : Nat) (ht : bitB b t ≠ 0) : ∀ (d i : Nat), i ≤ t → t < i + d → (∀ j, i ≤ j → j < t → bitB b j = 0) → firstOne b d i = some t := by
  intro d
  induction d with
  | zero => intro i h1 h2; omega
  | succ d ih =>
    intro i h1 h2 h3
    simp only [firstOne]
    by_cases hi : i = t
    · subst hi; rw [if_neg ht]
    · rw [if_pos (h3 i (by omega) (by omega))]
      exact ih (i + 1) (by omega) (by omega) fun j h4 h5 => h3 j (by omega) h5

theorem open_ok (b : List Int) (hb : OkB b) (lead : Nat) (p c : Int) (s : List Int) (p1 : 1 ≤ p) (p2 : p ≤ 15) (h1 : 1 ≤ c) (h2 : c ≤ 31) (hs : OkB s) (hn : s.length ≤ 32) (k : Nat) (hk : s.length + 41 ≤ k)
    (h : Reads b lead (wholeL p c s)) (h0 : ∀ j, j < lead → bitB b j = 0) :
    group_Open.f k b 0 = some (p, c, s, ((lead + 26 + 9 * s.length : Nat) : Int), 0) := by
  have hl := h.1
  have hb1 := hb.1
  unfold wholeL at h hl
  rw [List.length_append, startL_length, putL_length] at hl
  obtain ⟨hst, hpu⟩ := h.split
  rw [startL_length] at hpu
  obtain ⟨h16, h4⟩ := Reads.split hst
  rw [digs_length] at h4
  have e15 : digs 1 16 = List.replicate 15 48 ++ [49] := by decide
  rw [e15] at h16
  have hz : ∀ j, j < lead + 15 → bitB b j = 0 := by
    intro j hj
    by_cases hjl : j < lead
    · exact h0 j hjl
    · have := h16.split.1.2 (j - lead) (by simp; omega)
      rw [show lead + (j - lead) = j from by omega] at this
      rw [this, List.getD_eq_getElem?_getD, List.getElem?_replicate, if_pos (by omega)]
      rfl
  have ho : bitB b (lead + 15) = 1 := by
    have := h16.split.2.cons.1
    rw [List.length_replicate] at this
    rw [this]; rfl
  have hf : firstOne b (8 * b.length - 0) 0 = some (lead + 15) := firstOne_eq b (lead + 15) (by omega) _ 0 (by omega) (by omega) fun j _ hj => hz j hj
  have e4 := h4.readP (by omega) (by omega) (by omega)
  have e4' : Pr.readP b (((lead + 15 : Nat) : Int) + 1) 4 = (p, 0) := by
    rw [show (((lead + 15 : Nat) : Int) + 1) = ((lead + 16 : Nat) : Int) from by omega]; exact e4
  have hst : startP b 0 = (p, ((lead + 20 : Nat) : Int), 0) := by
    unfold startP
    rw [if_neg (by decide), show (0 : Int).toNat = 0 from rfl, hf]
    simp only [e4', if_true]
    rw [if_neg (by omega)]
    congr 2
  unfold group_Open.f bits_Start.f
  rw [if_pos ⟨hb, by unfold in64; omega⟩, Option.bind_some, hst]
  simp only [if_true]
  rw [if_neg (by omega), w64 _ (by omega) (by omega), show (0 + ((lead + 20 : Nat) : Int)) = ((lead + 20 : Nat) : Int) from by omega, get_ok b hb (lead + 20) c s h1 h2 hs hn k hk hpu, Option.bind_some]
  simp only [if_true]
  rw [w64 _ (by omega) (by omega)]
  congr 5
  omega
theorem opens18 {k : Nat} {b : List Int} {p c n e : Int} {s : List Int} (h : group_Open.f k b 0 = some (p, c, s, n, e)) : praxinoscopelaw18_opens.f k b p c s n e = some true := by
  unfold praxinoscopelaw18_opens.f
  rw [h, Option.bind_some]
  simp [praxinoscopekit_SameBytes.f]

theorem awake18 (k : Nat) (hk : 60 ≤ k) : praxinoscopelaw18_awake.f k = some true :=
  mono_le _ praxinoscopelaw18_awake.mono hk (by decide +kernel)
theorem pick_eq (a n : Int) (hn : 0 < n) (h : n ≤ 1000000) : ∃ r, praxinoscopekit_Pick.f a n = some r ∧ 0 ≤ r ∧ r < n := by
  unfold praxinoscopekit_Pick.f
  have h1 := Int.tmod_lt_of_pos a hn
  have h2 := Int.lt_tmod_of_pos a hn
  rw [if_neg (by omega), if_neg (by omega)]
  by_cases hz : Int.tmod a n < 0
  · rw [if_pos hz, w64 _ (by omega) (by omega)]; exact ⟨_, rfl, by omega, by omega⟩
  · rw [if_neg hz]; exact ⟨_, rfl, by omega, by omega⟩
end Go.Proofs.Ytjbpcffmeaadeaa.Pr
