import Derived.Test.YtjbpcffmeaadeaaP3
/- The contract of a pen's Put. -/
namespace Go.Proofs.Ytjbpcffmeaadeaa.Pp
open Go.RowKit Go.Proofs.Ytjbpcffmeaadeaa.Pr Go.Proofs.YtjbpcffmeaadeaaW.PrintWords Go.Proofs.YtjbpcffmeaadeaaW.PrintLast Go.Proofs.YtjbpcffmeaadeaaW.PrintMore

/-- The lowest m bits of n, the highest first. -/
def pd (n : Int) : Nat → List Int
  | 0 => []
  | m + 1 => n / 2 ^ m % 2 :: pd n m
theorem pd_length (n : Int) (m : Nat) : (pd n m).length = m := by
  induction m with
  | zero => rfl
  | succ m ih => simp [pd, ih]

theorem div_pow_le63 (n : Int) (j : Nat) (h0 : 0 ≤ n) (h1 : n < 9223372036854775808) : 0 ≤ n / 2 ^ j ∧ n / 2 ^ j < 9223372036854775808 := by
  have hp : (0 : Int) < 2 ^ j := Int.pow_pos (by decide)
  exact ⟨Int.ediv_nonneg h0 (by omega), Int.lt_of_le_of_lt (Int.ediv_le_self _ h0) h1⟩

/-- A state of a pen behind W: more may lie in new blocks; nothing else has turned. -/
structure PenK (w0 W : World) (ok : Nat → Prop) (g : Nat) (L : List Int) (V : World) : Prop where
  pen : PenS w0.heap.size (fun k => ok k ∨ W.heap.size ≤ k) g L V
  below : Below w0.heap.size w0 V
  kept : Kept W V (fun k => k = g ∨ ok k)
theorem PenK.step {w0 W V V' : World} {ok : Nat → Prop} {g : Nat} {L L' : List Int} (h : PenK w0 W ok g L V) (hp : PenS w0.heap.size (fun k => (ok k ∨ W.heap.size ≤ k) ∨ V.heap.size ≤ k) g L' V') (hb : Below w0.heap.size w0 V') (hk : Kept V V' (fun k => k = g ∨ (ok k ∨ W.heap.size ≤ k))) : PenK w0 W ok g L' V' := by
  have hle := h.kept.1
  refine ⟨hp.mono (fun k hk => ?_), hb, Nat.le_trans hle hk.1, fun k hlt hn => ?_⟩
  · rcases hk with hk | hk
    · exact hk
    · exact .inr (Nat.le_trans hle hk)
  · refine (hk.2 k (by omega) ?_).trans (h.kept.2 k hlt hn)
    rintro (h1 | h1 | h1)
    · exact hn (.inl h1)
    · exact hn (.inr h1)
    · omega
theorem PenK.start {w0 W : World} {ok : Nat → Prop} {g : Nat} {L : List Int} (hp : PenS w0.heap.size ok g L W) (hb : Below w0.heap.size w0 W) : PenK w0 W ok g L W :=
  ⟨hp.mono (fun _ h => .inl h), hb, Kept.refl _ _⟩

set_option maxHeartbeats 4000000 in
set_option maxRecDepth 100000 in
/-- Put of a number that fits. -/
theorem put_fits (w0 W : World) (ok : Nat → Prop) (g : Nat) (L : List Int) (n : Int) (m : Nat) (hB : Below w0.heap.size w0 W) (hg : w0.heap.size ≤ g) (hP : PenS w0.heap.size ok g L W) (hm : m ≤ 32) (hn : 0 ≤ n) (hn2 : n / 2 ^ m = 0) (hn3 : n < 9223372036854775808) (hl : L.length + m ≤ 16777216) :
    Calls Try.prog 50 #[.pointer (some ⟨g, 0, none⟩), .int .i64 n, .int .i64 (m : Int)] W fun e W' => e = .returned (.int .i64 0) ∧ PenK w0 W ok g (L ++ pd n m) W' := by
  have HP := Aside0.mk hP
  have HK := Aside0.mk (PenK.start hP hB)
  have hd1 : decide ((m : Int) < 0) = false := decide_eq_false (by omega)
  have hd2 : decide ((m : Int) > 32) = false := decide_eq_false (by omega)
  have hd2' : decide (32 < (m : Int)) = false := decide_eq_false (by omega)
  have hd3 : decide (n < 0) = false := decide_eq_false (by omega)
  have hsh : n / 2 ^ min m 64 = 0 := by rw [Nat.min_eq_left (by omega)]; exact hn2
  clear hP hB
  go_enter Try.func50, Try.ntmps50
  go_wp2_with (fail)
  refine (none_calls HP.out).mono ?_
  rintro e w' ⟨rfl, rfl⟩
  go_wp2_with (fail)
  refine (full_calls (m : Int) HP.out (by omega) (by omega)).mono ?_
  rintro e w' ⟨rfl, rfl⟩
  have hfl : decide ((L.length : Int) + (m : Int) > 16777216) = false := decide_eq_false (by omega)
  have hfl' : decide (16777216 < (L.length : Int) + (m : Int)) = false := decide_eq_false (by omega)
  have hfl2 : ¬ ((L.length : Int) + (m : Int) > 16777216) := by omega
  have hwm : IntKind.i64.wrap ((m : Int) - 1) = (m : Int) - 1 := by rw [IntKind.wrap_i64]; omega
  go_wp2_with (fail)
  go_loopw [7] (fun v7 wr => ∃ (i : Int) (Lc : List Int), v7 = .int .i64 i ∧ -1 ≤ i ∧ i < m ∧ Aside0 (Lc ++ pd n (i + 1).toNat = L ++ pd n m) ∧ Aside0 (PenK w0 W ok g Lc wr)) (fun v7 _ => (intOf v7 + 1).toNat)
  case atStart => exact ⟨(m : Int) - 1, L, rfl, by omega, by omega, ⟨by rw [show ((m : Int) - 1 + 1).toNat = m from by omega]⟩, HK⟩
  case round =>
    obtain ⟨i, Lc, rfl, hi1, hi2, HL, HKc⟩ := hrel
    by_cases hneg : i < 0
    · obtain rfl : i = -1 := by omega
      have hge : decide ((-1 : Int) ≥ 0) = false := rfl
      have hE : Lc = L ++ pd n m := by have := HL.out; simpa [pd] using this
      subst hE
      go_wp2
      go_ret
      exact ⟨rfl, HKc.out⟩
    · obtain ⟨j, rfl⟩ := Int.eq_ofNat_of_zero_le (show 0 ≤ i by omega)
      have hge : decide ((j : Int) ≥ 0) = true := decide_eq_true (by omega)
      have hdv := div_pow_le63 n j hn hn3
      have hbit : Go.bits .and .i64 (n / 2 ^ j) 1 = n / 2 ^ j % 2 := and1 _ hdv.1 hdv.2
      have hbit' : Go.bits .and .i64 (n / 2 ^ min j 64) 1 = n / 2 ^ j % 2 := by rw [Nat.min_eq_left (by omega)]; exact hbit
      have hLl : Lc.length + (j + 1) = L.length + m := by
        have := congrArg List.length HL.out
        rw [List.length_append, List.length_append, pd_length, pd_length] at this
        omega
      have HL2 := Aside0.mk (show (Lc ++ [n / 2 ^ j % 2]) ++ pd n j = L ++ pd n m by
        have := HL.out
        rw [show ((j : Int) + 1).toNat = j + 1 from by omega] at this
        rw [← this]; simp [pd])
      clear HL
      go_wp2_with (fail)
      refine (write_calls w0 wr _ g Lc (n / 2 ^ j % 2) HKc.out.below hg HKc.out.pen (by omega) (by omega)).mono ?_
      rintro e w3 ⟨rfl, p1, p2, p3⟩
      have HK3 := Aside0.mk (HKc.out.step p1 p2 p3)
      clear p1 p2 p3 HKc
      go_wp2
      go_roundw
      case rel => exact ⟨(j : Int) - 1, Lc ++ [n / 2 ^ j % 2], by first | rfl | simp, by omega, by omega, ⟨by rw [show ((j : Int) - 1 + 1).toNat = j from by omega]; exact HL2.out⟩, HK3⟩
      case measure => simp [intOf]

set_option maxHeartbeats 4000000 in
set_option maxRecDepth 100000 in
/-- Put of what is out of range. -/
theorem put_range {base : Nat} {ok : Nat → Prop} {g : Nat} {L : List Int} {W : World} (n m : Int) (hP : PenS base ok g L W) (hn3 : -9223372036854775808 ≤ n ∧ n < 9223372036854775808) (hbad : m < 0 ∨ 32 < m ∨ n < 0 ∨ 0 < n / 2 ^ m.toNat) :
    Calls Try.prog 50 #[.pointer (some ⟨g, 0, none⟩), .int .i64 n, .int .i64 m] W fun e W' => e = .returned (.int .i64 3) ∧ W = W' := by
  have HP := Aside0.mk hP
  clear hP
  by_cases h1 : m < 0
  · have hd1 : decide (m < 0) = true := decide_eq_true h1
    go_enter Try.func50, Try.ntmps50
    go_wp2_with (fail)
    refine (none_calls HP.out).mono ?_
    rintro e w' ⟨rfl, rfl⟩
    go_wp2
    go_ret
    exact ⟨rfl, rfl⟩
  have hd1 : decide (m < 0) = false := decide_eq_false h1
  by_cases h2 : m > 32
  · have hd2 : decide (m > 32) = true := decide_eq_true h2
    have hd2' : decide (32 < m) = true := decide_eq_true h2
    go_enter Try.func50, Try.ntmps50
    go_wp2_with (fail)
    refine (none_calls HP.out).mono ?_
    rintro e w' ⟨rfl, rfl⟩
    go_wp2
    go_ret
    exact ⟨rfl, rfl⟩
  have hd2 : decide (m > 32) = false := decide_eq_false h2
  have hd2' : decide (32 < m) = false := decide_eq_false h2
  by_cases h3 : n < 0
  · have hd3 : decide (n < 0) = true := decide_eq_true h3
    go_enter Try.func50, Try.ntmps50
    go_wp2_with (fail)
    refine (none_calls HP.out).mono ?_
    rintro e w' ⟨rfl, rfl⟩
    go_wp2
    go_ret
    exact ⟨rfl, rfl⟩
  have hd3 : decide (n < 0) = false := decide_eq_false h3
  obtain ⟨j, rfl⟩ := Int.eq_ofNat_of_zero_le (show 0 ≤ m by omega)
  have h4 : 0 < n / 2 ^ j := by
    rcases hbad with h | h | h | h
    · omega
    · omega
    · omega
    · rwa [show ((j : Int)).toNat = j from by omega] at h
  obtain ⟨y, hy⟩ : ∃ y, n / 2 ^ j = y := ⟨_, rfl⟩
  have hsh : n / 2 ^ min j 64 = y := by rw [Nat.min_eq_left (by omega)]; exact hy
  rw [hy] at h4
  have hd4 : decide (y > 0) = true := decide_eq_true h4
  have hd4' : decide (0 < y) = true := decide_eq_true h4
  clear hbad
  go_enter Try.func50, Try.ntmps50
  go_wp2_with (fail)
  refine (none_calls HP.out).mono ?_
  rintro e w' ⟨rfl, rfl⟩
  go_wp2
  go_ret
  exact ⟨rfl, rfl⟩

/-- Put of no pen. -/
theorem put_nil (n m : Int) (W : World) : Calls Try.prog 50 #[.pointer none, .int .i64 n, .int .i64 m] W fun e W' => e = .returned (.int .i64 1) ∧ W = W' := by
  go_enter Try.func50, Try.ntmps50
  go_wp2_with (fail)
  refine (none_nil W).mono ?_
  rintro e w' ⟨rfl, rfl⟩
  go_wp2
  go_ret
  exact ⟨rfl, rfl⟩
theorem put_zero (n m : Int) (W : World) (g : Nat) (hb : W.heap[g]? = some (.cells #[.slice none 0 0, .int .i64 0, .bool false] 71 (0, 0))) : Calls Try.prog 50 #[.pointer (some ⟨g, 0, none⟩), .int .i64 n, .int .i64 m] W fun e W' => e = .returned (.int .i64 1) ∧ W = W' := by
  have Hb := Aside0.mk hb
  clear hb
  go_enter Try.func50, Try.ntmps50
  go_wp2_with (fail)
  refine (none_zero W g Hb.out).mono ?_
  rintro e w' ⟨rfl, rfl⟩
  go_wp2
  go_ret
  exact ⟨rfl, rfl⟩
theorem len_nil (W : World) : Calls Try.prog 52 #[.pointer none] W fun e W' => e = .returned (.int .i64 0) ∧ W = W' := by
  go_enter Try.func52, Try.ntmps52
  go_wp2_with (fail)
  refine (none_nil W).mono ?_
  rintro e w' ⟨rfl, rfl⟩
  go_wp2
  go_ret
  exact ⟨rfl, rfl⟩
theorem len_zero (W : World) (g : Nat) (hb : W.heap[g]? = some (.cells #[.slice none 0 0, .int .i64 0, .bool false] 71 (0, 0))) : Calls Try.prog 52 #[.pointer (some ⟨g, 0, none⟩)] W fun e W' => e = .returned (.int .i64 0) ∧ W = W' := by
  have Hb := Aside0.mk hb
  clear hb
  go_enter Try.func52, Try.ntmps52
  go_wp2_with (fail)
  refine (none_zero W g Hb.out).mono ?_
  rintro e w' ⟨rfl, rfl⟩
  go_wp2
  go_ret
  exact ⟨rfl, rfl⟩
end Go.Proofs.Ytjbpcffmeaadeaa.Pp
