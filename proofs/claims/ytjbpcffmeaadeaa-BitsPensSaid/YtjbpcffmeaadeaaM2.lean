import Derived.Test.YtjbpcffmeaadeaaM1
/- Plain laws on texts of bits: a text packed into bytes, and read back. -/
namespace Go.Proofs.Ytjbpcffmeaadeaa.Pr
open Go.RowKit Go.Proofs.YtjbpcffmeaadeaaW.PrintWords Go.Proofs.YtjbpcffmeaadeaaW.PrintLast Go.Proofs.YtjbpcffmeaadeaaW.PrintMore

/-- The bit that a digit stands for. -/
def bv (c : UInt8) : Int := if c = 48 then 0 else 1
/-- From place i on the bytes hold the text t. -/
def Reads (b : List Int) (i : Nat) (t : List UInt8) : Prop := i + t.length ≤ 8 * b.length ∧ ∀ j, j < t.length → bitB b (i + j) = bv (t.getD j 48)
/-- A text of noughts and ones. -/
def Bin (t : List UInt8) : Prop := ∀ c ∈ t, c = 48 ∨ c = 49

theorem dg_bin (n : Int) (i : Nat) : dg n i = 48 ∨ dg n i = 49 := by unfold dg; split <;> simp
theorem digs_bin (n : Int) (m : Nat) : Bin (digs n m) := by
  induction m with
  | zero => intro c hc; simp [digs] at hc
  | succ m ih =>
    intro c hc
    simp only [digs, List.mem_cons] at hc
    rcases hc with rfl | hc
    · exact dg_bin n m
    · exact ih c hc
theorem Bin.append {s t : List UInt8} (hs : Bin s) (ht : Bin t) : Bin (s ++ t) := by
  intro c hc
  rcases List.mem_append.mp hc with h | h
  · exact hs c h
  · exact ht c h
theorem bv_dg (n : Int) (i : Nat) : bv (dg n i) = n / 2 ^ i % 2 := by
  unfold bv dg
  rcases (show n / 2 ^ i % 2 = 0 ∨ n / 2 ^ i % 2 = 1 by omega) with h | h <;> simp [h]

theorem Reads.split {b : List Int} {i : Nat} {s t : List UInt8} (h : Reads b i (s ++ t)) : Reads b i s ∧ Reads b (i + s.length) t := by
  obtain ⟨h1, h2⟩ := h
  rw [List.length_append] at h1 h2
  refine ⟨⟨by omega, fun j hj => ?_⟩, ⟨by omega, fun j hj => ?_⟩⟩
  · rw [h2 j (by omega), List.getD_eq_getElem?_getD, List.getElem?_append_left hj, ← List.getD_eq_getElem?_getD]
  · rw [show i + s.length + j = i + (s.length + j) from by omega, h2 _ (by omega), List.getD_eq_getElem?_getD, List.getElem?_append_right (by omega), show s.length + j - s.length = j from by omega, ← List.getD_eq_getElem?_getD]
theorem Reads.join {b : List Int} {i : Nat} {s t : List UInt8} (h : Reads b i s) (g : Reads b (i + s.length) t) : Reads b i (s ++ t) := by
  refine ⟨by rw [List.length_append]; have := g.1; omega, fun j hj => ?_⟩
  rw [List.length_append] at hj
  by_cases hs : j < s.length
  · rw [h.2 j hs, List.getD_eq_getElem?_getD, List.getD_eq_getElem?_getD, List.getElem?_append_left hs]
  · have := g.2 (j - s.length) (by omega)
    rw [show i + s.length + (j - s.length) = i + j from by omega] at this
    rw [this, List.getD_eq_getElem?_getD, List.getD_eq_getElem?_getD, List.getElem?_append_right (by omega)]
theorem Reads.cons {b : List Int} {i : Nat} {c : UInt8} {t : List UInt8} (h : Reads b i (c :: t)) : bitB b i = bv c ∧ Reads b (i + 1) t := by
  have h' : Reads b i ([c] ++ t) := h
  obtain ⟨h1, h2⟩ := h'.split
  exact ⟨by simpa using h1.2 0 (by simp), by simpa using h2⟩

theorem numB_front (l : List Int) (m : Nat) : ∀ i, numB l i (m + 1) = bitB l i * 2 ^ m + numB l (i + 1) m := by
  induction m with
  | zero => intro i; simp [numB]
  | succ m ih =>
    intro i
    rw [numB, ih i, numB, Int.pow_succ]
    rw [show i + 1 + m = i + (m + 1) from by omega]
    generalize (2 : Int) ^ m = p
    generalize bitB l i = x
    rw [Int.mul_add, ← Int.mul_assoc x p 2, Int.mul_comm (x * p) 2]
    omega

theorem mod_front (n : Int) (m : Nat) : n % 2 ^ (m + 1) = n / 2 ^ m % 2 * 2 ^ m + n % 2 ^ m := by
  have hp : (0 : Int) < 2 ^ m := Int.pow_pos (by decide)
  have e1 := Int.mul_ediv_add_emod n (2 ^ m)
  have b1 := Int.emod_nonneg n (show (2 : Int) ^ m ≠ 0 by omega)
  have b2 := Int.emod_lt_of_pos n hp
  rw [Int.pow_succ]
  generalize hP : (2 : Int) ^ m = P at *
  generalize hq : n / P = q at *
  generalize hr : n % P = r at *
  have e2 := Int.mul_ediv_add_emod q 2
  have c1 : n = (q % 2 * P + r) + P * 2 * (q / 2) := by
    have hh : P * q = P * 2 * (q / 2) + P * (q % 2) := by rw [Int.mul_assoc, ← Int.mul_add, e2]
    rw [Int.mul_comm (q % 2) P]
    omega
  have hx : 0 ≤ q % 2 * P + r ∧ q % 2 * P + r < P * 2 := by
    rcases (show q % 2 = 0 ∨ q % 2 = 1 by omega) with h | h <;> rw [h] <;> omega
  rw [c1, Int.add_mul_emod_self_left, Int.emod_eq_of_lt hx.1 hx.2]

theorem Reads.num {b : List Int} {n : Int} (m : Nat) : ∀ {i}, Reads b i (digs n m) → numB b i m = n % 2 ^ m := by
  induction m with
  | zero => intro i _; simp [numB]
  | succ m ih =>
    intro i h
    obtain ⟨h1, h2⟩ := Reads.cons h
    rw [numB_front, ih h2, h1, bv_dg, mod_front]

theorem Reads.readP {b : List Int} {n : Int} {m : Nat} {i : Nat} (h : Reads b i (digs n m)) (hm : m ≤ 32) (h0 : 0 ≤ n) (h1 : n < 2 ^ m) : readP b (i : Int) (m : Int) = (n, 0) := by
  have hl := h.1
  rw [digs_length] at hl
  unfold Pr.readP
  rw [if_neg (by omega), if_neg (by omega), show ((i : Int)).toNat = i from by omega, show ((m : Int)).toNat = m from by omega, h.num, Int.emod_eq_of_lt h0 h1]
theorem Reads.readP1 {b : List Int} {c : UInt8} {t : List UInt8} {i : Nat} (h : Reads b i (c :: t)) : Pr.readP b (i : Int) 1 = (bv c, 0) := by
  have hl := h.1
  rw [List.length_cons] at hl
  unfold Pr.readP
  rw [if_neg (by omega), if_neg (by omega), show ((i : Int)).toNat = i from by omega, show ((1 : Int)).toNat = 1 from rfl]
  simp [numB, h.cons.1]

theorem bt_list (t : List UInt8) (i : Nat) (h : i < t.length) : bt (⟨t.toArray⟩ : ByteArray) (i : Int) = ((t[i]).toNat : Int) := by
  unfold bt
  have hs : (⟨t.toArray⟩ : ByteArray).size = t.length := by simp [ByteArray.size]
  rw [dif_pos (by rw [hs]; omega)]
  rfl
theorem ba_size (t : List UInt8) : (⟨t.toArray⟩ : ByteArray).size = t.length := by simp [ByteArray.size]
theorem ba_app (s t : List UInt8) : (⟨s.toArray⟩ : ByteArray) ++ ⟨t.toArray⟩ = ⟨(s ++ t).toArray⟩ := by
  apply ByteArray.ext
  simp

/-- What a number counts for in Bits: nought if even, else one. -/
def bvI (x : Int) : Int := if Int.tmod x 2 = 0 then 0 else 1

theorem or_bit : ∀ v < 256, ∀ e < 8, 0 ≤ Go.bits .or .u8 (v : Nat) ((2 : Int) ^ e) ∧ Go.bits .or .u8 (v : Nat) ((2 : Int) ^ e) ≤ 255 ∧
    ∀ e' < 8, Go.bits .or .u8 (v : Nat) ((2 : Int) ^ e) / 2 ^ e' % 2 = if e' = e then 1 else ((v : Nat) : Int) / 2 ^ e' % 2 := by decide +kernel
theorem shr128 : ∀ r < 8, (128 : Int) / 2 ^ (min r 8) = 2 ^ (7 - r) := by decide

theorem set_bit (x : List Int) (hx : OkB x) (i : Nat) (hi : i / 8 < x.length) (j : Nat) :
    bitB (x.set (i / 8) (Go.bits .or .u8 (x.getD (i / 8) 0) (2 ^ (7 - i % 8)))) j = if j = i then 1 else bitB x j := by
  have hg := hx.getD (i / 8)
  obtain ⟨v, hv⟩ : ∃ v : Nat, x.getD (i / 8) 0 = (v : Int) := ⟨(x.getD (i / 8) 0).toNat, by omega⟩
  unfold bitB
  by_cases hj : j / 8 = i / 8
  · rw [hj, List.getD_eq_getElem?_getD, List.getElem?_set_self hi, Option.getD_some, hv, (or_bit v (by omega) (7 - i % 8) (by omega)).2.2 (7 - j % 8) (by omega)]
    by_cases he : j = i
    · subst he; rw [if_pos rfl, if_pos rfl]
    · rw [if_neg (by omega), if_neg he]
  · rw [List.getD_eq_getElem?_getD, List.getElem?_set_ne (by omega), ← List.getD_eq_getElem?_getD, if_neg (by intro h; subst h; exact hj rfl)]
theorem set_ok (x : List Int) (hx : OkB x) (i : Nat) : OkB (x.set (i / 8) (Go.bits .or .u8 (x.getD (i / 8) 0) (2 ^ (7 - i % 8)))) := by
  have hg := hx.getD (i / 8)
  obtain ⟨v, hv⟩ : ∃ v : Nat, x.getD (i / 8) 0 = (v : Int) := ⟨(x.getD (i / 8) 0).toNat, by omega⟩
  refine ⟨by rw [List.length_set]; exact hx.1, fun y hy => ?_⟩
  rcases List.mem_or_eq_of_mem_set hy with h | h
  · exact hx.2 y h
  · rw [h, hv]
    have := or_bit v (by omega) (7 - i % 8) (by omega)
    exact ⟨this.1, this.2.1⟩

theorem Bits_loop (l : List Int) (hl : l.length ≤ 1099511627776) (m : Nat) : ∀ (k : Nat) (x : List Int) (i : Nat), i + m = l.length → m < k → OkB x → x.length = (l.length + 7) / 8 →
    (∀ j, bitB x j = if j < i then bvI (l.getD j 0) else 0) →
    ∃ p, praxinoscopekit_Bits.l0 k l x (i : Int) = some p ∧ OkB p ∧ p.length = (l.length + 7) / 8 ∧ ∀ j, bitB p j = if j < l.length then bvI (l.getD j 0) else 0 := by
  induction m with
  | zero =>
    intro k x i hi hk ho hn hb
    obtain ⟨k, rfl⟩ : ∃ q, k = q + 1 := ⟨k - 1, by omega⟩
    obtain rfl : i = l.length := by omega
    simp only [praxinoscopekit_Bits.l0]
    rw [if_neg (by omega)]
    exact ⟨x, rfl, ho, hn, hb⟩
  | succ m ih =>
    intro k x i hi hk ho hn hb
    obtain ⟨k, rfl⟩ : ∃ q, k = q + 1 := ⟨k - 1, by omega⟩
    simp only [praxinoscopekit_Bits.l0]
    rw [if_pos (by omega), if_pos (by omega), w64 ((i : Int) + 1) (by omega) (by omega), show ((i : Int) + 1) = ((i + 1 : Nat) : Int) from by omega]
    have er : rd l (i : Int) = l.getD i 0 := by unfold rd; rw [show ((i : Int)).toNat = i from by omega]
    rw [er]
    by_cases hz : Int.tmod (l.getD i 0) 2 = 0
    · rw [if_pos hz]
      refine ih k x (i + 1) (by omega) (by omega) ho hn fun j => ?_
      rw [hb j]
      by_cases hj : j = i
      · subst hj; rw [if_neg (by omega), if_pos (by omega)]; unfold bvI; rw [if_pos hz]
      · by_cases hji : j < i
        · rw [if_pos hji, if_pos (by omega)]
        · rw [if_neg hji, if_neg (by omega)]
    · rw [if_neg hz, Int.tdiv_eq_ediv_of_nonneg (by omega), Int.tmod_eq_emod_of_nonneg (by omega), w64 ((i : Int) / 8) (by omega) (by omega)]
      have hu : IntKind.u64.wrap ((i : Int) % 8) = (i : Int) % 8 := by rw [IntKind.wrap_u64]; omega
      rw [hu, if_pos (by omega), if_pos (by omega), if_pos (by omega)]
      have es : shr .u8 128 ((i : Int) % 8) = 2 ^ (7 - i % 8) := by
        unfold shr
        rw [show ((i : Int) % 8).toNat = i % 8 from by omega, show IntKind.u8.bits = 8 from rfl]
        exact shr128 (i % 8) (by omega)
      have ed : rd x ((i : Int) / 8) = x.getD (i / 8) 0 := by unfold rd; rw [show ((i : Int) / 8).toNat = i / 8 from by omega]
      rw [es, ed, show ((i : Int) / 8).toNat = i / 8 from by omega]
      refine ih k _ (i + 1) (by omega) (by omega) (set_ok x ho i) (by rw [List.length_set]; exact hn) fun j => ?_
      rw [set_bit x ho i (by omega) j]
      by_cases hj : j = i
      · subst hj; rw [if_pos rfl, if_pos (by omega)]; unfold bvI; rw [if_neg hz]
      · rw [if_neg hj, hb j]
        by_cases hji : j < i
        · rw [if_pos hji, if_pos (by omega)]
        · rw [if_neg hji, if_neg (by omega)]

theorem bitB_zeros (n j : Nat) : bitB (List.replicate n (0 : Int)) j = 0 := by
  unfold bitB
  have : (List.replicate n (0 : Int)).getD (j / 8) 0 = 0 := by
    rw [List.getD_eq_getElem?_getD, List.getElem?_replicate]; split <;> rfl
  rw [this]; simp

/-- kit.Bits packs. -/
theorem Bits_eq (l : List Int) (hl : l.length ≤ 1099511627776) (k : Nat) (hk : l.length < k) :
    ∃ p, praxinoscopekit_Bits.f k l = some p ∧ OkB p ∧ p.length = (l.length + 7) / 8 ∧ ∀ j, bitB p j = if j < l.length then bvI (l.getD j 0) else 0 := by
  unfold praxinoscopekit_Bits.f
  rw [w64 ((l.length : Int) + 7) (by omega) (by omega), Int.tdiv_eq_ediv_of_nonneg (by omega), w64 (((l.length : Int) + 7) / 8) (by omega) (by omega), if_pos (by omega), if_pos (by omega)]
  rw [show (((l.length : Int) + 7) / 8).toNat = (l.length + 7) / 8 from by omega]
  refine Bits_loop l hl l.length k _ 0 (by omega) hk ⟨by rw [List.length_replicate]; omega, fun y hy => ?_⟩ (by rw [List.length_replicate]) fun j => ?_
  · rw [(List.mem_replicate.mp hy).2]; omega
  · rw [if_neg (by omega)]; exact bitB_zeros _ _

/-- A digit as the number that law18.bytes makes of it. -/
def dv (c : UInt8) : Int := ((c.toNat : Int) - 48) % 256
theorem bvI_dv {c : UInt8} (h : c = 48 ∨ c = 49) : bvI (dv c) = bv c := by rcases h with rfl | rfl <;> decide

theorem bytes18_loop (t : List UInt8) (tail : List Int) (ht : t.length ≤ 65536) (hn : tail.length ≤ 1048576) (m : Nat) : ∀ (k : Nat) (x : List Int) (i : Nat), i + m = t.length → m < k → x.length ≤ 65536 + i →
    ∃ k', k' + m + 1 = k ∧ praxinoscopelaw18_bytes.l0 k ⟨t.toArray⟩ tail x (i : Int) = praxinoscopekit_Bits.f k' (x ++ (t.drop i).map dv ++ tail) := by
  induction m with
  | zero =>
    intro k x i hi hk hx
    obtain ⟨k, rfl⟩ : ∃ q, k = q + 1 := ⟨k - 1, by omega⟩
    refine ⟨k, by omega, ?_⟩
    simp only [praxinoscopelaw18_bytes.l0]
    rw [ba_size, if_neg (by omega), if_pos (by omega), List.drop_eq_nil_of_le (by omega)]
    simp
  | succ m ih =>
    intro k x i hi hk hx
    obtain ⟨k, rfl⟩ : ∃ q, k = q + 1 := ⟨k - 1, by omega⟩
    simp only [praxinoscopelaw18_bytes.l0]
    rw [ba_size, if_pos (by omega), if_pos (by omega), if_pos (by omega), w64 _ (by omega) (by omega), show ((i : Int) + 1) = ((i + 1 : Nat) : Int) from by omega, bt_list t i (by omega)]
    obtain ⟨k', hk', e⟩ := ih k (x ++ [((t[i].toNat : Int) - 48) % 256]) (i + 1) (by omega) (by omega) (by simp; omega)
    refine ⟨k', by omega, ?_⟩
    rw [e, List.drop_eq_getElem_cons (show i < t.length by omega), List.map_cons]
    simp only [dv, List.append_assoc, List.cons_append, List.nil_append]

/-- law18.bytes packs noughts, a text and a tail. -/
theorem bytes18 (lead : Nat) (t : List UInt8) (tail : List Int) (hlead : lead ≤ 65536) (ht : t.length ≤ 65536) (hn : tail.length ≤ 1048576) (hb : Bin t) (k : Nat) (hk : lead + 2 * t.length + tail.length + 3 < k) :
    ∃ p, praxinoscopelaw18_bytes.f k (lead : Int) ⟨t.toArray⟩ tail = some p ∧ OkB p ∧ p.length = (lead + t.length + tail.length + 7) / 8 ∧ Reads p lead t ∧ (∀ j, j < lead → bitB p j = 0) := by
  unfold praxinoscopelaw18_bytes.f
  rw [if_pos (by omega), if_pos (by omega), show ((lead : Int)).toNat = lead from by omega]
  obtain ⟨k', hk', e⟩ := bytes18_loop t tail ht hn t.length k (List.replicate lead 0) 0 (by omega) (by omega) (by rw [List.length_replicate]; omega)
  rw [show ((0 : Nat) : Int) = 0 from rfl] at e
  rw [e, List.drop_zero]
  have hlen : (List.replicate lead (0 : Int) ++ t.map dv ++ tail).length = lead + t.length + tail.length := by simp; omega
  obtain ⟨p, hp, ho, hpl, hbit⟩ := Bits_eq (List.replicate lead (0 : Int) ++ t.map dv ++ tail) (by omega) k' (by omega)
  rw [hlen] at hpl hbit
  refine ⟨p, hp, ho, hpl, ⟨by omega, fun j hj => ?_⟩, fun j hj => ?_⟩
  · rw [hbit, if_pos (by omega), List.append_assoc, List.getD_eq_getElem?_getD, List.getElem?_append_right (by simp), List.getElem?_append_left (by simp; omega)]
    simp only [List.length_replicate, Nat.add_sub_cancel_left]
    rw [List.getElem?_map, List.getElem?_eq_getElem hj, List.getD_eq_getElem?_getD, List.getElem?_eq_getElem hj]
    exact bvI_dv (hb _ (List.getElem_mem _))
  · rw [hbit, if_pos (by omega), List.append_assoc, List.getD_eq_getElem?_getD, List.getElem?_append_left (by simp; omega), List.getElem?_replicate, if_pos hj]
    rfl
end Go.Proofs.Ytjbpcffmeaadeaa.Pr
