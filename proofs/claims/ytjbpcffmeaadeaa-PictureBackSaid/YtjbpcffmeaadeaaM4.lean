import Derived.Test.YtjbpcffmeaadeaaM2
import Derived.Test.YtjbpcffmeaadeaaTopP1
/- Plain laws on pictures: what picture.Put and Get come to. -/
namespace Go.Proofs.Ytjbpcffmeaadeaa.Pc
open Go.RowKit Go.Proofs.Ytjbpcffmeaadeaa.Pr Go.Proofs.YtjbpcffmeaadeaaW.PrintWords Go.Proofs.YtjbpcffmeaadeaaW.PrintLast Go.Proofs.YtjbpcffmeaadeaaW.PrintMore

theorem mono_le {α : Type} (f : Nat → Option α) (h : ∀ k, LeO (f k) (f (k + 1))) {k k' : Nat} (hk : k ≤ k') {r : α} (hr : f k = some r) : f k' = some r := by
  induction hk with
  | refl => exact hr
  | step _ ih => exact h _ r ih

def spares (s : List Int) : List UInt8 := s.flatMap fun x => 49 :: digs x 8
theorem spares_cons (x : Int) (s : List Int) : spares (x :: s) = 49 :: (digs x 8 ++ spares s) := by simp [spares]
theorem spares_length (s : List Int) : (spares s).length = 9 * s.length := by
  induction s with
  | nil => rfl
  | cons x s ih => rw [spares_cons]; simp only [List.length_cons, List.length_append, digs_length, ih]; omega
theorem spares_bin (s : List Int) : Bin (spares s) := by
  induction s with
  | nil => intro c hc; simp [spares] at hc
  | cons x s ih =>
    rw [spares_cons]
    intro c hc
    rcases List.mem_cons.mp hc with h | h
    · exact .inr h
    · exact (digs_bin x 8).append ih c h
theorem digs_mod (n : Int) (m : Nat) : ∀ q : Int, digs (n + 2 ^ m * q) m = digs n m := by
  induction m with
  | zero => intro q; rfl
  | succ m ih =>
    intro q
    have hp : (0 : Int) < 2 ^ m := Int.pow_pos (by decide)
    have e : n + 2 ^ (m + 1) * q = n + 2 ^ m * (2 * q) := by rw [Int.pow_succ, Int.mul_assoc]
    simp only [digs]
    rw [e, ih (2 * q)]
    congr 1
    unfold dg
    rw [Int.add_mul_ediv_left _ _ (by omega)]
    have : (n / 2 ^ m + 2 * q) % 2 = n / 2 ^ m % 2 := by omega
    rw [this]
theorem reads_of_num (b : List Int) (m : Nat) : ∀ i, i + m ≤ 8 * b.length → Reads b i (digs (numB b i m) m) := by
  induction m with
  | zero => intro i h; exact ⟨by simpa [digs] using h, fun j hj => by simp [digs] at hj⟩
  | succ m ih =>
    intro i h
    have hp : (0 : Int) < 2 ^ m := Int.pow_pos (by decide)
    have hr := numB_range b (i + 1) m
    have hd : digs (numB b i (m + 1)) (m + 1) = [dg (numB b i (m + 1)) m] ++ digs (numB b (i + 1) m) m := by
      simp only [digs, List.cons_append, List.nil_append]
      congr 1
      rw [numB_front, Int.add_comm, Int.mul_comm]
      exact digs_mod _ _ _
    rw [hd]
    refine Reads.join ⟨by simp; omega, fun j hj => ?_⟩ (by simpa using ih (i + 1) (by omega))
    obtain rfl : j = 0 := by simpa using hj
    simp only [List.getD_cons_zero, Nat.add_zero]
    rw [bv_dg, numB_front, Int.add_comm, Int.mul_comm, Int.add_mul_ediv_left _ _ (by omega), Int.ediv_eq_zero_of_lt hr.1 hr.2]
    have := bitB_01 b i
    omega

theorem readP_in (b : List Int) (i m : Nat) (hm : m ≤ 32) (h : i + m ≤ 8 * b.length) : Pr.readP b (i : Int) (m : Int) = (numB b i m, 0) := by
  unfold Pr.readP
  rw [if_neg (by omega), if_neg (by omega), show ((i : Int)).toNat = i from by omega, show ((m : Int)).toNat = m from by omega]
theorem readP_short (b : List Int) (i m : Nat) (hm : m ≤ 32) (h : 8 * b.length < i + m) : Pr.readP b (i : Int) (m : Int) = (0, 5) := by
  unfold Pr.readP
  rw [if_neg (by omega), if_pos (by omega)]
theorem readP_in1 (b : List Int) (i : Nat) (h : i + 1 ≤ 8 * b.length) : Pr.readP b (i : Int) 1 = (bitB b i, 0) := by
  have := readP_in b i 1 (by omega) h
  rw [show ((1 : Nat) : Int) = 1 from rfl] at this
  rw [this]; simp [numB]
theorem readP_short1 (b : List Int) (i : Nat) (h : 8 * b.length < i + 1) : Pr.readP b (i : Int) 1 = (0, 5) := readP_short b i 1 (by omega) h

theorem rd_nat (l : List Int) (i : Nat) : rd l (i : Int) = l.getD i 0 := by unfold rd; rw [show ((i : Int)).toNat = i from by omega]

theorem pick_eq (a n : Int) (hn : 0 < n) (h : n ≤ 1000000) : ∃ r, praxinoscopekit_Pick.f a n = some r ∧ 0 ≤ r ∧ r < n := by
  unfold praxinoscopekit_Pick.f
  have h1 := Int.tmod_lt_of_pos a hn
  have h2 := Int.lt_tmod_of_pos a hn
  rw [if_neg (by omega), if_neg (by omega)]
  by_cases hz : Int.tmod a n < 0
  · rw [if_pos hz, w64 _ (by omega) (by omega)]; exact ⟨_, rfl, by omega, by omega⟩
  · rw [if_neg hz]; exact ⟨_, rfl, by omega, by omega⟩

def picL (t ty : Int) (s : List Int) : List UInt8 := digs t 5 ++ (digs ty 6 ++ (spares s ++ [48]))
theorem picL_length (t ty : Int) (s : List Int) : (picL t ty s).length = 12 + 9 * s.length := by
  unfold picL; simp only [List.length_append, digs_length, spares_length, List.length_cons, List.length_nil]; omega
theorem picL_bin (t ty : Int) (s : List Int) : Bin (picL t ty s) := by
  refine (digs_bin t 5).append ((digs_bin ty 6).append ((spares_bin s).append ?_))
  intro c hc; simp at hc; exact .inl hc

theorem digits_eq (n : Int) (m : Nat) (h1 : 1 ≤ m) (hm : m ≤ 64) (h0 : 0 ≤ n) (h2 : n ≤ 9223372036854775807) : picture_digits.f n (m : Int) = some ⟨(digs n m).toArray⟩ := by
  unfold picture_digits.f
  rw [if_pos ⟨⟨by omega, by omega⟩, h0, h2⟩, show ((m : Int)).toNat = m from by omega]

theorem put_loop (s : List Int) (hs : OkB s) (hn : s.length ≤ 1000) (m : Nat) : ∀ (k : Nat) (t : List UInt8) (i : Nat), i + m = s.length → m < k → t.length ≤ 100000 + 9 * i →
    picture_Put.l0 k ⟨t.toArray⟩ s (s.length : Int) (i : Int) = some (⟨(t ++ (spares (s.drop i) ++ [48])).toArray⟩, 0) := by
  induction m with
  | zero =>
    intro k t i hi hk ht
    obtain ⟨k, rfl⟩ : ∃ q, k = q + 1 := ⟨k - 1, by omega⟩
    simp only [picture_Put.l0]
    rw [if_neg (by omega), ba_size, if_pos (by omega), List.drop_eq_nil_of_le (by omega)]
    rw [show (⟨#[48]⟩ : ByteArray) = ⟨([48] : List UInt8).toArray⟩ from rfl, ba_app]
    rfl
  | succ m ih =>
    intro k t i hi hk ht
    obtain ⟨k, rfl⟩ : ∃ q, k = q + 1 := ⟨k - 1, by omega⟩
    have hg := hs.getD i
    simp only [picture_Put.l0]
    rw [if_pos (by omega), if_pos (by omega), if_pos (by omega), rd_nat, w64 (s.getD i 0) (by omega) (by omega), w64 ((i : Int) + 1) (by omega) (by omega)]
    have e2 : picture_digits.f (s.getD i 0) 8 = some ⟨(digs (s.getD i 0) 8).toArray⟩ := digits_eq (s.getD i 0) 8 (by omega) (by omega) (by omega) (by omega)
    rw [e2, Option.bind_some, show (⟨#[49]⟩ : ByteArray) = ⟨([49] : List UInt8).toArray⟩ from rfl, ba_app]
    simp only [ba_size, List.length_append, digs_length, List.length_cons, List.length_nil]
    rw [if_pos (by omega), if_pos (by omega), ba_app]
    have := ih k (t ++ ([49] ++ digs (s.getD i 0) 8)) (i + 1) (by omega) (by omega) (by simp only [List.length_append, digs_length, List.length_cons, List.length_nil]; omega)
    rw [show ((i : Int) + 1) = ((i + 1 : Nat) : Int) from by omega, this, List.drop_eq_getElem_cons (show i < s.length by omega), spares_cons]
    rw [List.getD_eq_getElem?_getD, List.getElem?_eq_getElem (by omega), Option.getD_some]
    simp only [List.append_assoc, List.cons_append, List.nil_append]

theorem check_ok (t ty : Int) (s : List Int) (t0 : 0 ≤ t) (t1 : t ≤ 31) (y0 : 0 ≤ ty) (y1 : ty ≤ 63) (hn : s.length ≤ 32) : picture_Check.f t ty s = some 0 := by
  unfold picture_Check.f
  rw [if_neg (by omega), if_neg (by omega), if_neg (by omega), if_neg (by omega), if_neg (by omega)]
theorem check_no (t ty : Int) (s : List Int) (h : t < 0 ∨ 31 < t ∨ ty < 0 ∨ 63 < ty ∨ 32 < s.length) : picture_Check.f t ty s = some 2 := by
  unfold picture_Check.f
  by_cases h1 : t < 0
  · rw [if_pos h1]
  by_cases h2 : t > 31
  · rw [if_neg h1, if_pos h2]
  by_cases h3 : ty < 0
  · rw [if_neg h1, if_neg h2, if_pos h3]
  by_cases h4 : ty > 63
  · rw [if_neg h1, if_neg h2, if_neg h3, if_pos h4]
  rw [if_neg h1, if_neg h2, if_neg h3, if_neg h4, if_pos (by omega)]

theorem put_eq (t ty : Int) (s : List Int) (t0 : 0 ≤ t) (t1 : t ≤ 31) (y0 : 0 ≤ ty) (y1 : ty ≤ 63) (hs : OkB s) (hn : s.length ≤ 32) (k : Nat) (hk : s.length < k) :
    picture_Put.f k t ty s = some (⟨(picL t ty s).toArray⟩, 0) := by
  unfold picture_Put.f
  rw [check_ok t ty s t0 t1 y0 y1 hn, Option.bind_some, if_pos rfl]
  have e1 : picture_digits.f t 5 = some ⟨(digs t 5).toArray⟩ := digits_eq t 5 (by omega) (by omega) (by omega) (by omega)
  have e2 : picture_digits.f ty 6 = some ⟨(digs ty 6).toArray⟩ := digits_eq ty 6 (by omega) (by omega) (by omega) (by omega)
  rw [e1, Option.bind_some, e2, Option.bind_some]
  simp only [ba_size, digs_length]
  rw [if_pos (by omega), ba_app]
  have := put_loop s hs (by omega) s.length k (digs t 5 ++ digs ty 6) 0 (by omega) (by omega) (by simp [digs_length])
  rw [show ((0 : Nat) : Int) = 0 from rfl, List.drop_zero] at this
  rw [this, List.append_assoc]
  rfl
theorem put_no (t ty : Int) (s : List Int) (h : t < 0 ∨ 31 < t ∨ ty < 0 ∨ 63 < ty ∨ 32 < s.length) (k : Nat) : picture_Put.f k t ty s = some (⟨#[]⟩, 2) := by
  unfold picture_Put.f
  rw [check_no t ty s h, Option.bind_some, if_neg (by decide)]

/-! ### Get -/
theorem take_in (b : List Int) (p m : Nat) (hm : m ≤ 32) (h : p + m ≤ 8 * b.length) : takeP b (p : Int) 0 (m : Int) = (numB b p m, ((p + m : Nat) : Int), 0) := by
  unfold takeP
  rw [if_neg (by simp), readP_in b p m hm h]
  simp
theorem take_short (b : List Int) (p m : Nat) (hm : m ≤ 32) (h : 8 * b.length < p + m) : takeP b (p : Int) 0 (m : Int) = (0, (p : Int), 5) := by
  unfold takeP
  rw [if_neg (by simp), readP_short b p m hm h]
  simp
theorem take_bad (b : List Int) (a e n : Int) (he : e ≠ 0) : takeP b a e n = (0, a, e) := by
  unfold takeP
  rw [if_pos he]
theorem take_in1 (b : List Int) (p : Nat) (h : p + 1 ≤ 8 * b.length) : takeP b (p : Int) 0 1 = (bitB b p, ((p + 1 : Nat) : Int), 0) := by
  have := take_in b p 1 (by omega) h
  rw [show ((1 : Nat) : Int) = 1 from rfl] at this
  rw [this]; simp [numB]
theorem take_short1 (b : List Int) (p : Nat) (h : 8 * b.length < p + 1) : takeP b (p : Int) 0 1 = (0, (p : Int), 5) := take_short b p 1 (by omega) h
theorem take_in8 (b : List Int) (p : Nat) (h : p + 8 ≤ 8 * b.length) : takeP b (p : Int) 0 8 = (numB b p 8, ((p + 8 : Nat) : Int), 0) := take_in b p 8 (by omega) h
theorem take_short8 (b : List Int) (p : Nat) (h : 8 * b.length < p + 8) : takeP b (p : Int) 0 8 = (0, (p : Int), 5) := take_short b p 8 (by omega) h

theorem sp_any (b : List Int) (m : Nat) : ∀ (f : Nat) (acc : List Int) (p : Nat), acc.length + m = 32 → m < f → p ≤ 8 * b.length →
    (∃ r, OkB r ∧ acc.length + r.length ≤ 32 ∧ Reads b p (spares r ++ [48]) ∧ spP b f acc (p : Int) 0 = (acc ++ r, ((p + 9 * r.length + 1 : Nat) : Int), 0)) ∨
    (∃ acc' a e, (e = 5 ∨ e = 4) ∧ spP b f acc (p : Int) 0 = (acc', a, e)) := by
  induction m with
  | zero =>
    intro f acc p hn hf hl
    by_cases c1 : 8 * b.length < p + 1
    · exact .inr ⟨acc, p, 5, .inl rfl, spP_stop (take_short1 b p c1) (by decide) f (by omega)⟩
    rcases bitB_01 b p with e | e
    · refine .inl ⟨[], ⟨by simp, by simp⟩, by simp; omega, ⟨by simp [spares]; omega, fun j hj => ?_⟩, ?_⟩
      · obtain rfl : j = 0 := by simpa [spares] using hj
        simpa [spares, bv] using e
      · rw [spP_stop (take_in1 b p (by omega)) (by omega) f (by omega), List.append_nil]; simp
    · have h1 := take_in1 b p (by omega)
      rw [e] at h1
      exact .inr ⟨acc, _, 4, .inr rfl, spP_long h1 (by omega) f (by omega)⟩
  | succ m ih =>
    intro f acc p hn hf hl
    by_cases c1 : 8 * b.length < p + 1
    · exact .inr ⟨acc, p, 5, .inl rfl, spP_stop (take_short1 b p c1) (by decide) f (by omega)⟩
    rcases bitB_01 b p with e | e
    · refine .inl ⟨[], ⟨by simp, by simp⟩, by simp; omega, ⟨by simp [spares]; omega, fun j hj => ?_⟩, ?_⟩
      · obtain rfl : j = 0 := by simpa [spares] using hj
        simpa [spares, bv] using e
      · rw [spP_stop (take_in1 b p (by omega)) (by omega) f (by omega), List.append_nil]; simp
    · have h1 := take_in1 b p (by omega)
      rw [e] at h1
      by_cases c2 : 8 * b.length < p + 1 + 8
      · exact .inr ⟨acc, _, 5, .inl rfl, spP_bad h1 (by omega) (take_short8 b (p + 1) c2) (by decide) f (by omega)⟩
      have h2 := take_in8 b (p + 1) (by omega)
      have hr := numB_range b (p + 1) 8
      obtain ⟨f, rfl⟩ : ∃ q, f = q + 1 := ⟨f - 1, by omega⟩
      rw [spP_more h1 (by omega) h2]
      rcases ih f (acc ++ [numB b (p + 1) 8]) (p + 1 + 8) (by simp; omega) (by omega) (by omega) with ⟨r, k1, k2, k3, k4⟩ | ⟨acc', a, e', k1, k2⟩
      · refine .inl ⟨numB b (p + 1) 8 :: r, ⟨by simp at k2 ⊢; omega, fun y hy => ?_⟩, by simp at k2 ⊢; omega, ?_, ?_⟩
        · rcases List.mem_cons.mp hy with h | h
          · rw [h]; omega
          · exact k1.2 y h
        · rw [spares_cons]
          have : Reads b p ([49] ++ (digs (numB b (p + 1) 8) 8 ++ (spares r ++ [48]))) := by
            refine Reads.join ⟨by simp; omega, fun j hj => ?_⟩ (Reads.join (reads_of_num b 8 _ (by simp; omega)) ?_)
            · obtain rfl : j = 0 := by simpa using hj
              simpa [bv] using e
            · rw [digs_length]; simpa using k3
          simpa using this
        · rw [k4]
          simp only [List.append_assoc, List.singleton_append, List.length_cons]
          congr 3
          omega
      · exact .inr ⟨acc', a, e', k1, k2⟩

/-- What Get answers, at whatever place of whatever bytes. -/
theorem get_any (b : List Int) (hb : OkB b) (p : Nat) (hp : p ≤ 8 * b.length) :
    (∃ t ty s, 0 ≤ t ∧ t ≤ 31 ∧ 0 ≤ ty ∧ ty ≤ 63 ∧ OkB s ∧ s.length ≤ 32 ∧ Reads b p (picL t ty s) ∧ picture_Get.f b (p : Int) = some (t, ty, s, ((12 + 9 * s.length : Nat) : Int), 0)) ∨
    (∃ e, (e = 5 ∨ e = 4) ∧ picture_Get.f b (p : Int) = some (0, 0, [], 0, e)) := by
  have hb1 := hb.1
  unfold picture_Get.f
  rw [if_pos ⟨hb, by unfold in64; omega⟩]
  by_cases c1 : 8 * b.length < p + 5
  · have t1 := take_short b p 5 (by omega) c1
    rw [show ((5 : Nat) : Int) = 5 from rfl] at t1
    rw [getP_of (by omega) t1 (take_bad b _ 5 6 (by decide)) (spP_stop (take_bad b _ 5 1 (by decide)) (by decide) 34 (by decide))]
    exact .inr ⟨5, .inl rfl, rfl⟩
  have t1 := take_in b p 5 (by omega) (by omega)
  rw [show ((5 : Nat) : Int) = 5 from rfl] at t1
  by_cases c2 : 8 * b.length < p + 5 + 6
  · have t2 := take_short b (p + 5) 6 (by omega) c2
    rw [show ((6 : Nat) : Int) = 6 from rfl] at t2
    rw [getP_of (by omega) t1 t2 (spP_stop (take_bad b _ 5 1 (by decide)) (by decide) 34 (by decide))]
    exact .inr ⟨5, .inl rfl, rfl⟩
  have t2 := take_in b (p + 5) 6 (by omega) (by omega)
  rw [show ((6 : Nat) : Int) = 6 from rfl] at t2
  have r1 := numB_range b p 5
  have r2 := numB_range b (p + 5) 6
  rcases sp_any b 32 34 [] (p + 5 + 6) (by simp) (by omega) (by omega) with ⟨r, k1, k2, k3, k4⟩ | ⟨acc', a, e', k1, k2⟩
  · have hk3 := k3.1
    rw [List.length_append, spares_length] at hk3
    refine .inl ⟨_, _, r, r1.1, by omega, r2.1, by omega, k1, by simpa using k2, Reads.join (reads_of_num b 5 p (by omega)) (Reads.join (by rw [digs_length]; exact reads_of_num b 6 (p + 5) (by omega)) (by rw [digs_length, digs_length]; exact k3)), ?_⟩
    rw [getP_of (by omega) t1 t2 k4, if_pos rfl, List.nil_append, i64_w, w64 _ (by omega) (by omega)]
    congr 5
    omega
  · rw [getP_of (by omega) t1 t2 k2, if_neg (by omega)]
    exact .inr ⟨e', k1, rfl⟩
end Go.Proofs.Ytjbpcffmeaadeaa.Pc
