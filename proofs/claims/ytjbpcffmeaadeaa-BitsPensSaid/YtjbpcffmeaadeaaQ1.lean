import Derived.Test.YtjbpcffmeaadeaaME
import Derived.Test.YtjbpcffmeaadeaaHA
import Derived.Deep.RegionWith
/- The reference's pen: its state; the contract of its Put. -/
namespace Go.Proofs.Ytjbpcffmeaadeaa.Pp
open Go.RowKit Go.Proofs.Ytjbpcffmeaadeaa.Pr Go.Proofs.YtjbpcffmeaadeaaW.PrintWords Go.Proofs.YtjbpcffmeaadeaaW.PrintLast Go.Proofs.YtjbpcffmeaadeaaW.PrintMore
set_option linter.unusedVariables false

theorem hold {p : Prop} (h : Aside0 p) : p := h.out
/-- The reference's pen: its bits lie in a row of their own. -/
structure RefS (w : World) (g : Nat) (L : List Int) (W : World) : Prop where
  pen : ∃ v, W.heap[g]? = some (.cells #[v] 76 (0, 0)) ∧ Kd.R (Kd.int .i64) 3 W w.heap.size (fun _ => True) v L
  below : Below w.heap.size w W
  ge : w.heap.size ≤ g
theorem RefS.next {w W W' : World} {g : Nat} {L : List Int} (h : RefS w g L W) (hb : Below W.heap.size W W') : RefS w g L W' := by
  obtain ⟨v, h1, h2⟩ := h.pen
  exact ⟨⟨v, blk_below h1 hb, Kd.R_below h2 hb⟩, below_step h.below hb, h.ge⟩
theorem e3_ne {a : Nat} (ha : 3 ≠ a) : ∀ q, q ∈ 3 :: (Kd.int .i64).E → q ≠ a := by
  intro q hq
  simp only [List.mem_cons] at hq
  rcases hq with rfl | hq
  · exact ha
  · exact absurd hq (by show ¬ q ∈ ([] : List Nat); simp)
theorem RefS.same {a b : Nat} {w W W' : World} {g : Nat} {L : List Int} (h : RefS w g L W) (hs : Same a b W W') (hb : Below w.heap.size w W') (h1 : 3 ≠ a ∧ 3 ≠ b) (h2 : 76 ≠ a ∧ 76 ≠ b) : RefS w g L W' := by
  obtain ⟨v, p1, p2⟩ := h.pen
  exact ⟨⟨v, hs.blk p1 h2.1 h2.2, hs.row p2 (fun q hq => ⟨e3_ne h1.1 q hq, e3_ne h1.2 q hq⟩)⟩, hb, h.ge⟩
theorem RefS.grow {w W w1 : World} {g : Nat} {L : List Int} {v v1 : Value} {x : Int} (hge : w.heap.size ≤ g) (hb : W.heap[g]? = some (.cells #[v] 76 (0, 0))) (hR : Kd.R (Kd.int .i64) 3 W w.heap.size (fun _ => True) v L)
    (hR1 : Kd.R (Kd.int .i64) 3 w1 w.heap.size (fun _ => True) v1 (L ++ [x])) (hB1 : Below w.heap.size w w1) (hg1 : W.grownBy w1 v.ownBlock) :
    w1.heap[g]? = some (.cells #[v] 76 (0, 0)) ∧ RefS w g (L ++ [x]) (w1.setCell ⟨g, 0, none⟩ v1) ∧ Same 3 76 W (w1.setCell ⟨g, 0, none⟩ v1) := by
  have hne := Kd.R_ne hR hb (by decide)
  have hb1 := blk_grown hb hg1 hne
  have hs1 : Same 3 76 W w1 := Kept.of_grown hg1 (Kept.refl _ _) (fun k hk => .inl (by obtain ⟨cells, hc⟩ := Kd.R_typed hR k hk; exact ⟨cells, .inl hc⟩))
  refine ⟨hb1, ⟨⟨v1, blk_put hb1 0 v1 rfl, Kd.R_set hR1 hb1 (e3_ne (by decide)) 0 v1⟩, hB1.setCell (p := ⟨g, 0, none⟩) hge _, hge⟩, hs1.setCell (p := ⟨g, 0, none⟩) (.inl ⟨_, .inr hb⟩) _⟩

set_option maxHeartbeats 8000000 in
set_option maxRecDepth 100000 in
theorem ref_put_fits {w W : World} {g : Nat} {L : List Int} (n : Int) (m : Nat) (h : RefS w g L W) (hm : m ≤ 32) (hn : 0 ≤ n) (hn2 : n / 2 ^ m = 0) (hn3 : n < 9223372036854775808) (hl : L.length ≤ 1000000) :
    Calls Try.prog 58 #[.pointer (some ⟨g, 0, none⟩), .int .i64 n, .int .i64 (m : Int)] W fun e W' => e = .returned (.int .i64 0) ∧ Aside0 (RefS w g (L ++ pd n m) W' ∧ Same 3 76 W W') := by
  have H := Aside0.mk h
  have hd1 : decide ((m : Int) < 0) = false := decide_eq_false (by omega)
  have hd2 : decide ((m : Int) > 32) = false := decide_eq_false (by omega)
  have hd2' : decide (32 < (m : Int)) = false := decide_eq_false (by omega)
  have hd3 : decide (n < 0) = false := decide_eq_false (by omega)
  have hu : IntKind.u64.wrap (m : Int) = (m : Int) := by rw [IntKind.wrap_u64]; omega
  obtain ⟨v, hb, hR⟩ := h.pen
  obtain ⟨A, c, rfl⟩ := Kd.R_slice hR
  have hc0 : W.cell? ⟨g, 0, none⟩ = some (.slice A L.length c) := (blk_cell hb 0).trans rfl
  have hwl : IntKind.i64.wrap ((L.length : Int) + m) = (L.length : Int) + m := by rw [IntKind.wrap_i64]; omega
  have hfl : decide ((L.length : Int) + (m : Int) > 16777216) = false := decide_eq_false (by omega)
  have hfl' : decide (16777216 < (L.length : Int) + (m : Int)) = false := decide_eq_false (by omega)
  have hp33 := pow33 (n := m) (by omega)
  have hpp : (0 : Int) < 2 ^ m := Int.pow_pos (by decide)
  have hnm : n < 2 ^ m := by
    have e1 := Int.mul_ediv_add_emod n (2 ^ m)
    have e2 := Int.emod_lt_of_pos n hpp
    rw [hn2] at e1
    omega
  have hsh : decide (wrap64 ((2 : Int) ^ m) ≤ n) = false := decide_eq_false (by rw [w64 _ (by omega) (by omega)]; omega)
  have hsh2 : decide (n ≥ wrap64 ((2 : Int) ^ m)) = false := hsh
  have hsh3 : decide ((2 : Int) ^ m ≤ n) = false := decide_eq_false (by omega)
  have hwm : IntKind.i64.wrap ((m : Int) - 1) = (m : Int) - 1 := by rw [IntKind.wrap_i64]; omega
  clear h hb hR hnm
  go_enter Try.func58, Try.ntmps58
  go_wp2_with (fail)
  go_loopw [7] (fun v7 wr => ∃ (i : Int) (Lc : List Int), v7 = .int .i64 i ∧ -1 ≤ i ∧ i < m ∧ Aside0 (Lc ++ pd n (i + 1).toNat = L ++ pd n m) ∧ Lc.length ≤ 1000100 ∧ Aside0 (RefS w g Lc wr ∧ Same 3 76 W wr)) (fun v7 _ => (intOf v7 + 1).toNat)
  case atStart => exact ⟨(m : Int) - 1, L, rfl, by omega, by omega, ⟨by rw [show ((m : Int) - 1 + 1).toNat = m from by omega]⟩, by omega, ⟨H.out, Same.refl _ _ _⟩⟩
  case round =>
    clear H hc0
    obtain ⟨i, Lc, rfl, hi1, hi2, HL, hLc, HR⟩ := hrel
    by_cases hneg : i < 0
    · obtain rfl : i = -1 := by omega
      have hge : decide ((-1 : Int) ≥ 0) = false := rfl
      have hE : Lc = L ++ pd n m := by have := HL.out; simpa [pd] using this
      subst hE
      go_wp2
      go_ret
      exact ⟨rfl, HR⟩
    · obtain ⟨j, rfl⟩ := Int.eq_ofNat_of_zero_le (show 0 ≤ i by omega)
      have hge : decide ((j : Int) ≥ 0) = true := decide_eq_true (by omega)
      have huj : IntKind.u64.wrap (j : Int) = (j : Int) := by rw [IntKind.wrap_u64]; omega
      have hdv := div_pow_le63 n j hn hn3
      have hrem : Int.tmod (n / 2 ^ j) 2 = n / 2 ^ j % 2 := Int.tmod_eq_emod_of_nonneg hdv.1
      have hrem' : Int.tmod (n / 2 ^ min j 64) 2 = n / 2 ^ j % 2 := by rw [Nat.min_eq_left (by omega)]; exact hrem
      have hLl : Lc.length + (j + 1) = L.length + m := by
        have := congrArg List.length HL.out
        rw [List.length_append, List.length_append, pd_length, pd_length] at this
        omega
      have HL2 := Aside0.mk (show (Lc ++ [n / 2 ^ j % 2]) ++ pd n j = L ++ pd n m by
        have := HL.out
        rw [show ((j : Int) + 1).toNat = j + 1 from by omega] at this
        rw [← this]; simp [pd])
      obtain ⟨v2, hb, hR⟩ := HR.out.1.pen
      obtain ⟨A2, c2, rfl⟩ := Kd.R_slice hR
      have hc0 : wr.cell? ⟨g, 0, none⟩ = some (.slice A2 Lc.length c2) := (blk_cell hb 0).trans rfl
      have Hb := Aside0.mk hb
      have HRr := Aside0.mk hR
      clear HL hb hR hdv
      go_wp2_with ((with_reducible refine gate_builtin (b := .append) (xs := #[.tmp 43, .tmp 49]) rfl ?_); at_builtin; refine hold ?_)
      refine ⟨?_⟩
      refine Kd.R_append (Kd.int .i64) (w0 := w) (W := wr) w.heap.size rfl (.tmp 43) (.tmp 49) 44 3 (.int .i64 0) 8 rfl Try.underlying44 info3 rfl (by decide) (by decide) _ Lc (n / 2 ^ j % 2) [.int .i64 (n / 2 ^ j % 2)] (fun _ => True) (fun _ => False) rfl rfl (show Kd.M (Kd.int .i64) _ _ _ (n / 2 ^ j % 2) [.int .i64 (n / 2 ^ j % 2)] from rfl) (fun _ hk => hk.elim) (fun _ _ => trivial) HRr.out HR.out.1.below HR.out.1.below.size (by omega) ?_
      intro v1 w5 hR1 hB1 hg1 hat1
      obtain ⟨A5, c5, rfl⟩ := Kd.R_slice hR1
      have hgl : (Lc ++ [n / 2 ^ j % 2]).length = Lc.length + 1 := by simp
      rw [hgl] at hR1
      obtain ⟨hb5, hS5, hs5⟩ := RefS.grow HR.out.1.ge Hb.out HRr.out hR1 hB1 hg1
      have HS := Aside0.mk (show RefS w g (Lc ++ [n / 2 ^ j % 2]) (w5.setCell ⟨g, 0, none⟩ (.slice A5 (Lc.length + 1) c5)) ∧ Same 3 76 W (w5.setCell ⟨g, 0, none⟩ (.slice A5 (Lc.length + 1) c5)) from ⟨hS5, HR.out.2.trans hs5⟩)
      have hf5 := blk_frozen hb5 0
      have hc5 : w5.cell? ⟨g, 0, none⟩ = some (.slice A2 Lc.length c2) := (blk_cell hb5 0).trans rfl
      have hwj : IntKind.i64.wrap ((j : Int) - 1) = (j : Int) - 1 := by rw [IntKind.wrap_i64]; omega
      clear hR1 hB1 hg1 hat1 hS5 hs5 hb5 Hb HRr HR hc0 hgl
      go_wp2
      go_roundw
      case rel => exact ⟨(j : Int) - 1, Lc ++ [n / 2 ^ j % 2], rfl, by omega, by omega, ⟨by rw [show ((j : Int) - 1 + 1).toNat = j from by omega]; exact HL2.out⟩, by simp; omega, HS⟩
      case measure => simp [intOf]
end Go.Proofs.Ytjbpcffmeaadeaa.Pp
/- Contracts of the reference's pen: Put of what is out of range; Code. -/
namespace Go.Proofs.Ytjbpcffmeaadeaa.Pp
open Go.RowKit Go.Proofs.Ytjbpcffmeaadeaa.Pr Go.Proofs.YtjbpcffmeaadeaaW.PrintWords Go.Proofs.YtjbpcffmeaadeaaW.PrintLast Go.Proofs.YtjbpcffmeaadeaaW.PrintMore
set_option linter.unusedVariables false

set_option maxHeartbeats 4000000 in
set_option maxRecDepth 100000 in
theorem ref_put_range (g : Nat) (W : World) (n m : Int) (hn3 : -9223372036854775808 ≤ n ∧ n < 9223372036854775808) (hbad : m < 0 ∨ 32 < m ∨ n < 0 ∨ 0 < n / 2 ^ m.toNat) :
    Calls Try.prog 58 #[.pointer (some ⟨g, 0, none⟩), .int .i64 n, .int .i64 m] W fun e W' => e = .returned (.int .i64 3) ∧ W = W' := by
  by_cases h1 : m < 0
  · have hd1 : decide (m < 0) = true := decide_eq_true h1
    go_enter Try.func58, Try.ntmps58
    go_wp2
    go_ret
    exact ⟨rfl, rfl⟩
  have hd1 : decide (m < 0) = false := decide_eq_false h1
  by_cases h2 : m > 32
  · have hd2 : decide (m > 32) = true := decide_eq_true h2
    have hd2' : decide (32 < m) = true := decide_eq_true h2
    go_enter Try.func58, Try.ntmps58
    go_wp2
    go_ret
    exact ⟨rfl, rfl⟩
  have hd2 : decide (m > 32) = false := decide_eq_false h2
  have hd2' : decide (32 < m) = false := decide_eq_false h2
  by_cases h3 : n < 0
  · have hd3 : decide (n < 0) = true := decide_eq_true h3
    go_enter Try.func58, Try.ntmps58
    go_wp2
    go_ret
    exact ⟨rfl, rfl⟩
  have hd3 : decide (n < 0) = false := decide_eq_false h3
  obtain ⟨j, rfl⟩ := Int.eq_ofNat_of_zero_le (show 0 ≤ m by omega)
  have h4 : 0 < n / 2 ^ j := by
    rcases hbad with h | h | h | h
    · omega
    · omega
    · omega
    · rwa [show ((j : Int)).toNat = j from by omega] at h
  have hu : IntKind.u64.wrap (j : Int) = (j : Int) := by rw [IntKind.wrap_u64]; omega
  have hp33 := pow33 (n := j) (by omega)
  have hpp : (0 : Int) < 2 ^ j := Int.pow_pos (by decide)
  have hnm : (2 : Int) ^ j ≤ n := by
    have e1 := Int.mul_ediv_add_emod n (2 ^ j)
    have e2 := Int.emod_nonneg n (show (2 : Int) ^ j ≠ 0 by omega)
    have e3 : 2 ^ j * 1 ≤ 2 ^ j * (n / 2 ^ j) := Int.mul_le_mul_of_nonneg_left (by omega) (by omega)
    omega
  have hsh3 : decide ((2 : Int) ^ j ≤ n) = true := decide_eq_true hnm
  have hsh4 : decide (n ≥ (2 : Int) ^ j) = true := hsh3
  clear hbad hnm h4
  go_enter Try.func58, Try.ntmps58
  go_wp2
  go_ret
  exact ⟨rfl, rfl⟩

set_option maxHeartbeats 4000000 in
set_option maxRecDepth 100000 in
theorem ref_code_form (g : Nat) (W : World) (s : ByteArray) (hs : ¬ BinT s) (hn : s.size ≤ 1000) :
    Calls Try.prog 57 #[.pointer (some ⟨g, 0, none⟩), .string s] W fun e W' => e = .returned (.int .i64 14) ∧ Drawn0 W W' := by
  obtain ⟨q, hq, hq1, hq2⟩ : ∃ q : Nat, q < s.size ∧ bt s (q : Int) ≠ 48 ∧ bt s (q : Int) ≠ 49 := by
    refine Classical.byContradiction fun hn => hs fun i hi => ?_
    by_cases h1 : bt s (i : Int) = 48
    · exact .inl h1
    · by_cases h2 : bt s (i : Int) = 49
      · exact .inr h2
      · exact absurd ⟨i, hi, h1, h2⟩ hn
  clear hs
  go_enter Try.func57, Try.ntmps57
  go_wp2
  go_loopw [5] (fun v13 wr => ∃ (i : Nat), v13 = .int .i64 (i : Int) ∧ i ≤ q ∧ Drawn0 W wr) (fun v13 _ => s.size - (intOf v13).toNat)
  case atStart => exact ⟨0, rfl, by omega, Drawn0.refl _⟩
  case round =>
    obtain ⟨i, rfl, hi, ⟨m, rfl⟩⟩ := hrel
    have hlt : (i : Int) < (s.size : Int) := by omega
    have hd : decide ((i : Int) < (s.size : Int)) = true := decide_eq_true hlt
    have p4 : 0 ≤ (i : Int) := by omega
    have q4 : (i : Int) < (s.size : Int) := hlt
    have hx4 : ∀ h : i < s.size, ((s[i]'h).toNat : Int) = bt s (i : Int) := fun h => by simp [bt, h]
    have hw1 : IntKind.i64.wrap ((i : Int) + 1) = ((i + 1 : Nat) : Int) := by rw [IntKind.wrap_i64]; omega
    have hiq : (bt s (i : Int) = 48 ∨ bt s (i : Int) = 49) → i ≠ q := by rintro h rfl; omega
    have Hq := Aside0.mk hiq
    clear hiq hq1 hq2
    replace p4 := eq_true p4
    replace q4 := eq_true q4
    by_cases h48 : bt s (i : Int) = 48
    · have hb1 : (bt s (i : Int) != 48) = false := bne_eq_false_iff_eq.mpr h48
      have hne := Hq.out (.inl h48)
      go_wp2
      go_roundw
      case rel => exact ⟨i + 1, rfl, by omega, by repeat (first | exact Drawn0.refl _ | apply Drawn0.step)⟩
      case measure => simp [intOf]; omega
    · have hb1 : (bt s (i : Int) != 48) = true := bne_iff_ne.mpr (by omega)
      by_cases h49 : bt s (i : Int) = 49
      · have hb2 : (bt s (i : Int) != 49) = false := bne_eq_false_iff_eq.mpr h49
        have hne := Hq.out (.inr h49)
        go_wp2
        go_roundw
        case rel => exact ⟨i + 1, rfl, by omega, by repeat (first | exact Drawn0.refl _ | apply Drawn0.step)⟩
        case measure => simp [intOf]; omega
      · have hb2 : (bt s (i : Int) != 49) = true := bne_iff_ne.mpr (by omega)
        go_wp2
        go_ret
        exact ⟨rfl, by repeat (first | exact Drawn0.refl _ | apply Drawn0.step)⟩

set_option maxHeartbeats 16000000 in
set_option maxRecDepth 100000 in
theorem ref_code_fits {w W : World} {g : Nat} {L : List Int} (s : ByteArray) (h : RefS w g L W) (hs : BinT s) (hn : s.size ≤ 1000) (hl : L.length ≤ 1000000) :
    Calls Try.prog 57 #[.pointer (some ⟨g, 0, none⟩), .string s] W fun e W' => e = .returned (.int .i64 0) ∧ Aside0 (RefS w g (L ++ cd s s.size) W' ∧ Same 3 76 W W') := by
  have H := Aside0.mk h
  have Hs := Aside0.mk hs
  clear h hs
  go_enter Try.func57, Try.ntmps57
  go_wp2
  go_loopw [5] (fun v13 wr => ∃ (i : Nat), v13 = .int .i64 (i : Int) ∧ i ≤ s.size ∧ Drawn0 W wr) (fun v13 _ => s.size - (intOf v13).toNat)
  case atStart => exact ⟨0, rfl, by omega, Drawn0.refl _⟩
  case round =>
    obtain ⟨i, rfl, hi, ⟨m, rfl⟩⟩ := hrel
    by_cases hlt : (i : Int) < (s.size : Int)
    · have hd : decide ((i : Int) < (s.size : Int)) = true := decide_eq_true hlt
      have p4 : 0 ≤ (i : Int) := by omega
      have q4 : (i : Int) < (s.size : Int) := hlt
      have hx4 : ∀ h : i < s.size, ((s[i]'h).toNat : Int) = bt s (i : Int) := fun h => by simp [bt, h]
      replace p4 := eq_true p4
      replace q4 := eq_true q4
      have hw1 : IntKind.i64.wrap ((i : Int) + 1) = ((i + 1 : Nat) : Int) := by rw [IntKind.wrap_i64]; omega
      rcases Hs.out i (by omega) with h48 | h49
      · have hb1 : (bt s (i : Int) != 48) = false := bne_eq_false_iff_eq.mpr h48
        go_wp2
        go_roundw
        case rel => exact ⟨i + 1, rfl, by omega, by repeat (first | exact Drawn0.refl _ | apply Drawn0.step)⟩
        case measure => simp [intOf]; omega
      · have hb1 : (bt s (i : Int) != 48) = true := bne_iff_ne.mpr (by omega)
        have hb2 : (bt s (i : Int) != 49) = false := bne_eq_false_iff_eq.mpr h49
        go_wp2
        go_roundw
        case rel => exact ⟨i + 1, rfl, by omega, by repeat (first | exact Drawn0.refl _ | apply Drawn0.step)⟩
        case measure => simp [intOf]; omega
    · have hd : decide ((i : Int) < (s.size : Int)) = false := decide_eq_false hlt
      obtain ⟨V, hV⟩ : ∃ V, W.drewN m = V := ⟨_, rfl⟩
      have H2 := Aside0.mk (show RefS w g L V ∧ Same 3 76 W V from by rw [← hV]; exact ⟨H.out.next (pw_below_drewN (Below.refl _ _) m), Same.of_below (pw_below_drewN (Below.refl _ _) m)⟩)
      obtain ⟨v, hb, hR⟩ := H2.out.1.pen
      obtain ⟨A, c, rfl⟩ := Kd.R_slice hR
      have hc0 : V.cell? ⟨g, 0, none⟩ = some (.slice A L.length c) := (blk_cell hb 0).trans rfl
      have hwl : IntKind.i64.wrap ((L.length : Int) + s.size) = (L.length : Int) + s.size := by rw [IntKind.wrap_i64]; omega
      have hfl : decide ((L.length : Int) + (s.size : Int) > 16777216) = false := decide_eq_false (by omega)
      have hfl' : decide (16777216 < (L.length : Int) + (s.size : Int)) = false := decide_eq_false (by omega)
      clear hb hR H
      go_wp2_with (fail)
      go_loopw [6] (fun v6 wr => ∃ (p : Nat) (Lc : List Int), v6 = .int .i64 (p : Int) ∧ p ≤ s.size ∧ Aside0 (Lc = L ++ cd s p) ∧ Lc.length ≤ 1000000 + p ∧ Aside0 (RefS w g Lc wr ∧ Same 3 76 W wr)) (fun v6 _ => s.size - (intOf v6).toNat)
      case atStart => exact ⟨0, L, rfl, by omega, ⟨by simp [cd]⟩, by omega, H2⟩
      case round =>
        clear H2 hc0 hV hd hlt hi
        obtain ⟨p, Lc, rfl, hp, HE, hLc, HR⟩ := hrel
        by_cases hps : (p : Int) < (s.size : Int)
        · have hd : decide ((p : Int) < (s.size : Int)) = true := decide_eq_true hps
          have p4 : 0 ≤ (p : Int) := by omega
          have q4 : (p : Int) < (s.size : Int) := hps
          obtain ⟨Y, hY⟩ : ∃ Y, bt s (p : Int) = Y := ⟨_, rfl⟩
          have hbt := Hs.out p (by omega)
          rw [hY] at hbt
          have hx4 : ∀ h : p < s.size, ((s[p]'h).toNat : Int) = Y := fun h => by rw [← hY]; simp [bt, h]
          have Hcd := Aside0.mk (show cd s (p + 1) = cd s p ++ [Y - 48] by simp only [cd]; rw [hY])
          replace p4 := eq_true p4
          replace q4 := eq_true q4
          obtain ⟨X, hX⟩ : ∃ X, Y - 48 = X := ⟨_, rfl⟩
          rw [hX] at Hcd
          have hw48 : IntKind.u8.wrap (Y - 48) = X := by rw [IntKind.wrap_u8]; omega
          have hw48' : IntKind.i64.wrap X = X := by rw [IntKind.wrap_i64]; omega
          have hwp : IntKind.i64.wrap ((p : Int) + 1) = ((p + 1 : Nat) : Int) := by rw [IntKind.wrap_i64]; omega
          obtain ⟨v2, hb, hR⟩ := HR.out.1.pen
          obtain ⟨A2, c2, rfl⟩ := Kd.R_slice hR
          have hb1 : wr.drew.heap[g]? = _ := blk_drew hb
          have hca : wr.drew.cell? ⟨g, 0, none⟩ = some (.slice A2 Lc.length c2) := (blk_cell hb1 0).trans rfl
          have hcb : ∀ o, (wr.drew.alloc o).cell? ⟨g, 0, none⟩ = some (.slice A2 Lc.length c2) := fun o => (blk_cell (blk_alloc hb1 o) 0).trans rfl
          have hcc : ∀ o, (wr.alloc o).drew.cell? ⟨g, 0, none⟩ = some (.slice A2 Lc.length c2) := fun o => (blk_cell (blk_drew (blk_alloc hb o)) 0).trans rfl
          have Hb := Aside0.mk hb1
          have HRr := Aside0.mk (Kd.R_drew hR)
          clear hb hR hb1 hY hX hbt
          go_wp2_with (fail)
          refine wp_region_any (by kernel_rfl) ?_
          change wpAny _ _ _ _ _ _ _ (World.drew _)
          refine wpAny_take (i := 0) (v := ?_) rfl (by kernel_rfl) (by kernel_rfl) (by kernel_rfl) (fun _ _ _ h => h) (Or.inl ⟨by rfl, ?h0⟩) ?_
          case h0 => (intro w_; go_simp; first | done | with_reducible rfl)
          go_simp
          refine wpAny_take (i := 1) (v := ?_) rfl (by kernel_rfl) (by kernel_rfl) (by kernel_rfl) (fun _ _ _ h => h) (Or.inl ⟨by rfl, ?h1⟩) ?_
          case h1 => (intro w_; go_simp; first | done | with_reducible rfl)
          go_simp
          refine wpAny_take (i := 2) (v := ?_) rfl (by kernel_rfl) (by kernel_rfl) (by kernel_rfl) (fun _ _ _ h => h) (Or.inl ⟨by rfl, ?h2⟩) ?_
          case h2 => (intro w_; go_simp; first | done | with_reducible rfl)
          go_simp
          refine wpAny_take (i := 3) (v := ?_) rfl (by kernel_rfl) (by kernel_rfl) (by kernel_rfl) (fun _ _ _ h => h) (Or.inl ⟨by rfl, ?h3⟩) ?_
          case h3 => (intro w_; go_simp; first | done | with_reducible rfl)
          go_simp
          refine wpAny_take (i := 5) (v := ?_) rfl (by kernel_rfl) (by kernel_rfl) (by kernel_rfl) (fun _ _ _ h => h) (Or.inl ⟨by rfl, ?h5⟩) ?_
          case h5 => (intro w_; go_simp; first | done | with_reducible rfl)
          go_simp
          refine wpAny_take (i := 6) (v := ?_) rfl (by kernel_rfl) (by kernel_rfl) (by kernel_rfl) (fun _ _ _ h => h) (Or.inl ⟨by rfl, ?h6⟩) ?_
          case h6 => (intro w_; go_simp; first | done | with_reducible rfl)
          go_simp
          refine wpAny_take (i := 7) (v := ?_) rfl (by kernel_rfl) (by kernel_rfl) (by kernel_rfl) (fun _ _ _ h => h) (Or.inl ⟨by rfl, ?h7⟩) ?_
          case h7 => (intro w_; go_simp; first | done | with_reducible rfl)
          go_simp
          refine wpAny_take (i := 8) (v := ?_) rfl (by kernel_rfl) (by kernel_rfl) (by kernel_rfl) (fun _ _ _ h => h) (Or.inl ⟨by rfl, ?h8⟩) ?_
          case h8 => (intro w_; go_simp; first | done | with_reducible rfl)
          go_simp
          refine wpAny_take (i := 9) (v := ?_) rfl (by kernel_rfl) (by kernel_rfl) (by kernel_rfl) (fun _ _ _ h => h) (Or.inl ⟨by rfl, ?h9⟩) ?_
          case h9 => (intro w_; go_simp; first | done | with_reducible rfl)
          go_simp
          refine wpAny_ready (rs := [4, 10]) (by kernel_rfl) (by simp) ?_
          refine AllReady.cons rfl (fun K hK => ?_) ?_
          · go_simp
            refine hK _ _ ?_
            clear hK K
            refine wpAny_ready (rs := [10]) (by kernel_rfl) (by simp) ?_
            refine AllReady.cons rfl (fun K hK => ?_) AllReady.nil
            go_simp
            refine hK _ _ ?_
            clear hK K
            refine wpAny_ready (rs := [11]) (by kernel_rfl) (by simp) ?_
            refine AllReady.cons rfl (fun K hK => ?_) AllReady.nil
            refine Kd.R_append_step (Kd.int .i64) (w0 := w) (W := wr.drew) w.heap.size (by rfl) (.tmp 42) (.tmp 48) 44 3 (.int .i64 0) 8 rfl Try.underlying44 info3 rfl (by decide) (by decide) _ Lc X [.int .i64 X] (fun _ => True) (fun _ => False) rfl rfl (show Kd.M (Kd.int .i64) _ _ _ X [.int .i64 X] from rfl) (fun _ hk => hk.elim) (fun _ _ => trivial) HRr.out (below_drew HR.out.1.below) (below_drew HR.out.1.below).size (by omega) ?_
            intro v1 w5 hR1 hB1 hg1 hat1
            obtain ⟨A5, c5, rfl⟩ := Kd.R_slice hR1
            have hgl : (Lc ++ [X]).length = Lc.length + 1 := by simp
            rw [hgl] at hR1
            obtain ⟨hb5, hS5, hs5⟩ := RefS.grow HR.out.1.ge Hb.out HRr.out hR1 hB1 hg1
            have HS := Aside0.mk (show RefS w g (Lc ++ [X]) (w5.setCell ⟨g, 0, none⟩ (.slice A5 (Lc.length + 1) c5)) ∧ Same 3 76 W (w5.setCell ⟨g, 0, none⟩ (.slice A5 (Lc.length + 1) c5)) from ⟨hS5, (HR.out.2.trans (Same.of_below (below_drew (Below.refl _ _)))).trans hs5⟩)
            have hf5 := blk_frozen hb5 0
            have hc5 : w5.cell? ⟨g, 0, none⟩ = some (.slice A2 Lc.length c2) := (blk_cell hb5 0).trans rfl
            clear hR1 hB1 hg1 hat1 hS5 hs5 hb5 hgl
            refine hK _ _ ?_
            clear hK K
            refine wpAny_take (i := 12) (v := ?_) rfl (by kernel_rfl) (by kernel_rfl) (by kernel_rfl) (fun _ _ _ h => h) (Or.inl ⟨by rfl, ?h12⟩) ?_
            case h12 => (intro w_; go_simp; first | done | with_reducible rfl)
            go_simp
            refine wpAny_take (i := 13) (v := ?_) rfl (by kernel_rfl) (by kernel_rfl) (by kernel_rfl) (fun _ _ _ h => h) (Or.inl ⟨by rfl, ?h13⟩) ?_
            case h13 => (intro w_; go_simp; first | done | with_reducible rfl)
            go_simp
            refine wpAny_ready (rs := [14]) (by kernel_rfl) (by simp) ?_
            refine AllReady.cons rfl (fun K hK => ?_) AllReady.nil
            go_simp
            refine hK _ _ ?_
            clear hK K
            refine wpAny_done (by kernel_rfl) ?_ _
            go_wp2
            go_roundw
            case rel => exact ⟨p + 1, Lc ++ [X], rfl, by omega, ⟨by rw [HE.out, Hcd.out, List.append_assoc]⟩, by simp; omega, HS⟩
            case measure => simp [intOf]; omega
          refine AllReady.cons rfl (fun K hK => ?_) AllReady.nil
          go_simp
          refine hK _ _ ?_
          clear hK K
          refine wpAny_ready (rs := [4]) (by kernel_rfl) (by simp) ?_
          refine AllReady.cons rfl (fun K hK => ?_) AllReady.nil
          go_simp
          refine hK _ _ ?_
          clear hK K
          refine wpAny_ready (rs := [11]) (by kernel_rfl) (by simp) ?_
          refine AllReady.cons rfl (fun K hK => ?_) AllReady.nil
          refine Kd.R_append_step (Kd.int .i64) (w0 := w) (W := wr.drew) w.heap.size (by rfl) (.tmp 42) (.tmp 48) 44 3 (.int .i64 0) 8 rfl Try.underlying44 info3 rfl (by decide) (by decide) _ Lc X [.int .i64 X] (fun _ => True) (fun _ => False) rfl rfl (show Kd.M (Kd.int .i64) _ _ _ X [.int .i64 X] from rfl) (fun _ hk => hk.elim) (fun _ _ => trivial) HRr.out (below_drew HR.out.1.below) (below_drew HR.out.1.below).size (by omega) ?_
          intro v1 w5 hR1 hB1 hg1 hat1
          obtain ⟨A5, c5, rfl⟩ := Kd.R_slice hR1
          have hgl : (Lc ++ [X]).length = Lc.length + 1 := by simp
          rw [hgl] at hR1
          obtain ⟨hb5, hS5, hs5⟩ := RefS.grow HR.out.1.ge Hb.out HRr.out hR1 hB1 hg1
          have HS := Aside0.mk (show RefS w g (Lc ++ [X]) (w5.setCell ⟨g, 0, none⟩ (.slice A5 (Lc.length + 1) c5)) ∧ Same 3 76 W (w5.setCell ⟨g, 0, none⟩ (.slice A5 (Lc.length + 1) c5)) from ⟨hS5, (HR.out.2.trans (Same.of_below (below_drew (Below.refl _ _)))).trans hs5⟩)
          have hf5 := blk_frozen hb5 0
          have hc5 : w5.cell? ⟨g, 0, none⟩ = some (.slice A2 Lc.length c2) := (blk_cell hb5 0).trans rfl
          clear hR1 hB1 hg1 hat1 hS5 hs5 hb5 hgl
          refine hK _ _ ?_
          clear hK K
          refine wpAny_take (i := 12) (v := ?_) rfl (by kernel_rfl) (by kernel_rfl) (by kernel_rfl) (fun _ _ _ h => h) (Or.inl ⟨by rfl, ?h12⟩) ?_
          case h12 => (intro w_; go_simp; first | done | with_reducible rfl)
          go_simp
          refine wpAny_take (i := 13) (v := ?_) rfl (by kernel_rfl) (by kernel_rfl) (by kernel_rfl) (fun _ _ _ h => h) (Or.inl ⟨by rfl, ?h13⟩) ?_
          case h13 => (intro w_; go_simp; first | done | with_reducible rfl)
          go_simp
          refine wpAny_ready (rs := [14]) (by kernel_rfl) (by simp) ?_
          refine AllReady.cons rfl (fun K hK => ?_) AllReady.nil
          go_simp
          refine hK _ _ ?_
          clear hK K
          refine wpAny_done (by kernel_rfl) ?_ _
          go_wp2
          go_roundw
          case rel => exact ⟨p + 1, Lc ++ [X], rfl, by omega, ⟨by rw [HE.out, Hcd.out, List.append_assoc]⟩, by simp; omega, HS⟩
          case measure => simp [intOf]; omega
        · have hd : decide ((p : Int) < (s.size : Int)) = false := decide_eq_false hps
          obtain rfl : p = s.size := by omega
          have hE := HE.out
          subst hE
          go_wp2
          go_ret
          exact ⟨rfl, HR⟩
end Go.Proofs.Ytjbpcffmeaadeaa.Pp
/- The contract of the reference's pen's Bytes. -/
namespace Go.Proofs.Ytjbpcffmeaadeaa.Pp
open Go.RowKit Go.Proofs.Ytjbpcffmeaadeaa.Pr Go.Proofs.YtjbpcffmeaadeaaW.PrintWords Go.Proofs.YtjbpcffmeaadeaaW.PrintLast Go.Proofs.YtjbpcffmeaadeaaW.PrintMore
set_option linter.unusedVariables false

/-- The first i bits lie in the bytes, noughts behind them. -/
structure Part (L : List Int) (i : Nat) (xs : List Int) : Prop where
  ok : OkB xs
  len : xs.length = (L.length + 7) / 8
  bit : ∀ j, bitB xs j = if j < i then L.getD j 0 else 0
theorem Part.zero (L : List Int) (hl : L.length ≤ 1000000) : Part L 0 (List.replicate ((L.length + 7) / 8) 0) := by
  refine ⟨⟨by simp; omega, fun x hx => by rw [List.eq_of_mem_replicate hx]; omega⟩, by simp, fun j => by rw [bitB_zeros, if_neg (by omega)]⟩
theorem Part.packs {L xs : List Int} (h : Part L L.length xs) (hb : ∀ x ∈ L, x = 0 ∨ x = 1) : Packs L xs := ⟨h.ok, h.len, h.bit, hb⟩
theorem Part.step {L xs : List Int} {i : Nat} (h : Part L i xs) (hi : i < L.length) (x : Int) (hx : L.getD i 0 = x) (h01 : x = 0 ∨ x = 1) :
    Part L (i + 1) (xs.set (i / 8) (Go.bits .or .u8 (xs.getD (i / 8) 0) (x * 2 ^ (7 - i % 8)))) := by
  have hlen := h.len
  have hgl : i / 8 < xs.length := by omega
  have hg := h.ok.getD (i / 8)
  obtain ⟨v, hv⟩ : ∃ v : Nat, xs.getD (i / 8) 0 = (v : Int) := ⟨(xs.getD (i / 8) 0).toNat, by omega⟩
  have hself : xs.set (i / 8) (xs.getD (i / 8) 0) = xs := by
    rw [List.getD_eq_getElem?_getD, List.getElem?_eq_getElem hgl, Option.getD_some, List.set_getElem_self]
  have hif : ∀ j, (if j < i + 1 then L.getD j 0 else 0) = if j = i then x else if j < i then L.getD j 0 else 0 := by
    intro j
    by_cases h1 : j = i
    · subst h1; rw [if_pos (by omega), if_pos rfl, hx]
    · by_cases h2 : j < i
      · rw [if_pos (by omega), if_neg h1, if_pos h2]
      · rw [if_neg (by omega), if_neg h1, if_neg h2]
  rcases h01 with rfl | rfl
  · rw [Int.zero_mul, hv, or_zero v (by omega), ← hv, hself]
    refine ⟨h.ok, h.len, fun j => ?_⟩
    rw [hif j, h.bit j]
    by_cases h1 : j = i
    · subst h1; rw [if_pos rfl, if_neg (by omega)]
    · rw [if_neg h1]
  · rw [Int.one_mul]
    refine ⟨set_ok _ h.ok i, by rw [List.length_set]; exact h.len, fun j => ?_⟩
    rw [hif j, set_bit _ h.ok i hgl j, h.bit j]

set_option maxHeartbeats 16000000 in
set_option maxRecDepth 100000 in
theorem ref_bytes_calls {w W : World} {g : Nat} {L : List Int} (h : RefS w g L W) (hbin : ∀ x ∈ L, x = 0 ∨ x = 1) (hl : L.length ≤ 1000000) :
    Calls Try.prog 59 #[.pointer (some ⟨g, 0, none⟩)] W fun e W' => ∃ v bs, e = .returned v ∧ Kd.R (Kd.int .u8) 5 W' W.heap.size (fun _ => True) v bs ∧ Packs L bs ∧ Below W.heap.size W W' := by
  have H := Aside0.mk h
  have Hbin := Aside0.mk hbin
  obtain ⟨v, hb, hR⟩ := h.pen
  obtain ⟨A, c, rfl⟩ := Kd.R_slice hR
  have hc0 : W.cell? ⟨g, 0, none⟩ = some (.slice A L.length c) := (blk_cell hb 0).trans rfl
  have hw7 : IntKind.i64.wrap ((L.length : Int) + 7) = (L.length : Int) + 7 := by rw [IntKind.wrap_i64]; omega
  have hdv : Int.tdiv ((L.length : Int) + 7) 8 = (((L.length + 7) / 8 : Nat) : Int) := by rw [Int.tdiv_eq_ediv_of_nonneg (by omega)]; omega
  obtain ⟨N, hN⟩ : ∃ N, (L.length + 7) / 8 = N := ⟨_, rfl⟩
  rw [hN] at hdv
  have hwN : IntKind.i64.wrap (N : Int) = (N : Int) := by rw [IntKind.wrap_i64]; omega
  have Hb := Aside0.mk hb
  have HR := Aside0.mk hR
  clear h hbin hb hR
  go_enter Try.func59, Try.ntmps59
  go_wp2_with ((with_reducible refine gate_dst (N := 12) rfl ?_); refine hold ?_)
  refine ⟨?_⟩
  refine Kd.R_make (Kd.int .u8) (w0 := W) W.heap.size 5 rfl (N := 12) rfl 22 (.tmp 11) (.tmp 11) rfl (N : Int) rfl rfl Try.underlying22 (.int .u8 0) 1 info5 rfl (by decide) (by decide) 0 (ok := fun _ => True) (okp := fun _ => False) (show Kd.M (Kd.int .u8) _ _ _ 0 [.int .u8 0] from rfl) (fun _ hk => hk.elim) trivial (by omega) (by omega) (Below.refl _ _) (Nat.le_refl _) ?_
  intro v1 w1 hr1 hb1 hg1 hat1
  have hrl : (List.replicate ((N : Int)).toNat (0 : Int)).length = N := by simp
  obtain ⟨A1, c1, rfl⟩ := Kd.R_slice hr1
  rw [hrl] at hr1
  have HO := Aside0.mk (show Kd.R (Kd.int .u8) 5 w1 W.heap.size (fun _ => True) (.slice A1 N c1) (List.replicate N 0) by have := hr1; rw [show ((N : Int)).toNat = N from by omega] at this; exact this)
  have HB1 := Aside0.mk hb1
  have HP1 := Aside0.mk (show Part L 0 (List.replicate N 0) by rw [← hN]; exact Part.zero L hl)
  clear hr1 hb1 hg1 hat1
  go_wp2_with (fail)
  go_loopw [4] (fun v4 wr => ∃ (i : Nat) (xs : List Int), v4 = .int .i64 (i : Int) ∧ i ≤ L.length ∧ Aside0 (Part L i xs) ∧ Aside0 (Kd.R (Kd.int .u8) 5 wr W.heap.size (fun _ => True) (.slice A1 N c1) xs) ∧ Aside0 (Below W.heap.size W wr)) (fun v4 _ => L.length - (intOf v4).toNat)
  case atStart => exact ⟨0, _, rfl, by omega, HP1, HO, HB1⟩
  case round =>
    clear HO HB1 HP1 hc0
    obtain ⟨i, xs, rfl, hi, HP, HX, HB⟩ := hrel
    have hb2 := blk_below Hb.out HB.out
    have hc0 : wr.cell? ⟨g, 0, none⟩ = some (.slice A L.length c) := (blk_cell hb2 0).trans rfl
    by_cases hlt : (i : Int) < (L.length : Int)
    · have hd : decide ((i : Int) < (L.length : Int)) = true := decide_eq_true hlt
      have hxl : xs.length = N := by rw [HP.out.len, hN]
      have hi0 : (0 : Int) ≤ (i : Int) / 8 := by omega
      have hi1 : (i : Int) / 8 < (N : Int) := by omega
      have hX := HX.out
      rw [← hxl] at hX
      obtain ⟨r, c', e', hr0, _, _, HGr⟩ := Kd.R_form hX (by omega)
      simp only [Value.slice.injEq, true_and] at e'
      obtain ⟨rfl, rfl⟩ := e'
      obtain ⟨hce, hfe⟩ := Kd.R_celln (0 : Int) hX ((i : Int) / 8) hi0 (by omega)
      obtain ⟨u0, hu0⟩ : ∃ u, rdOf 0 xs ((i : Int) / 8) = u := ⟨_, rfl⟩
      rw [hu0] at hce
      have hRw := Kd.R_below HR.out HB.out
      obtain ⟨ad, rfl, hcell⟩ := (Kd.reads_of_C (enc := Value.int .i64) (d := (0 : Int)) (h1 := fun _ => rfl) (Kd.R_reads' hRw).2.2).at_ (i : Int) (by omega) hlt
      obtain ⟨x, hx⟩ : ∃ x, L.getD i 0 = x := ⟨_, rfl⟩
      have hrd : rdOf 0 L (i : Int) = x := by unfold rdOf; rw [show ((i : Int)).toNat = i from by omega]; exact hx
      rw [hrd, show ((i : Int)).toNat = i from by omega] at hcell
      have hx01 : x = 0 ∨ x = 1 := Hbin.out x (by rw [← hx, List.getD_eq_getElem?_getD, List.getElem?_eq_getElem (by omega), Option.getD_some]; exact List.getElem_mem _)
      have hwx : IntKind.u8.wrap x = x := by rw [IntKind.wrap_u8]; omega
      have hm8 : Int.tmod (i : Int) 8 = (i : Int) % 8 := Int.tmod_eq_emod_of_nonneg (by omega)
      have hd8 : Int.tdiv (i : Int) 8 = (i : Int) / 8 := Int.tdiv_eq_ediv_of_nonneg (by omega)
      have hwq : IntKind.i64.wrap ((i : Int) / 8) = (i : Int) / 8 := by rw [IntKind.wrap_i64]; omega
      have hw7i : IntKind.i64.wrap (7 - (i : Int) % 8) = 7 - (i : Int) % 8 := by rw [IntKind.wrap_i64]; omega
      have hwu : IntKind.u64.wrap (7 - (i : Int) % 8) = 7 - (i : Int) % 8 := by rw [IntKind.wrap_u64]; omega
      have hwi : IntKind.i64.wrap ((i : Int) + 1) = ((i + 1 : Nat) : Int) := by rw [IntKind.wrap_i64]; omega
      have Hu := Aside0.mk hu0
      have Hx := Aside0.mk hx
      have HX2 := Aside0.mk hX
      clear hX hu0 hx hrd HGr hRw hb2
      go_wp2_with (fail)
      go_region_with (fail)
      all_goals
        go_wp2
        go_roundw
        case rel =>
          have e1 : ((i : Int) / 8).toNat = i / 8 := by omega
          have e3 : x * 2 ^ (7 - i % 8) % 256 = x * 2 ^ (7 - i % 8) := shl_bit x hx01 _ (by omega)
          have e4 : rdOf 0 xs ((i : Int) / 8) = xs.getD (i / 8) 0 := by unfold rdOf; rw [e1]
          have hput := Kd.R_putn HX2.out ((i : Int) / 8) (Go.bits .or .u8 u0 (x * 2 ^ (7 - i % 8)))
          have hstep := HP.out.step (by omega) x Hx.out hx01
          rw [← e4, Hu.out] at hstep
          rw [e1, hxl] at hput
          rw [e3]
          exact ⟨i + 1, _, rfl, by omega, ⟨hstep⟩, ⟨Kd.R_drew hput⟩, ⟨below_drew (HB.out.setCell (p := ⟨r, i / 8, none⟩) hr0 _)⟩⟩
        case measure => simp [intOf]; omega
    · have hd : decide ((i : Int) < (L.length : Int)) = false := decide_eq_false hlt
      obtain rfl : i = L.length := by omega
      go_wp2
      go_ret
      first | exact ⟨_, xs, rfl, HX.out, HP.out.packs Hbin.out, HB.out⟩ | exact ⟨_, rfl, xs, HX.out, HP.out.packs Hbin.out, HB.out⟩
end Go.Proofs.Ytjbpcffmeaadeaa.Pp
/- What the reference's pen does with an act; both pens side by side. -/
namespace Go.Proofs.Ytjbpcffmeaadeaa.Pp
open Go.RowKit Go.Proofs.Ytjbpcffmeaadeaa.Pr Go.Proofs.YtjbpcffmeaadeaaW.PrintWords Go.Proofs.YtjbpcffmeaadeaaW.PrintLast Go.Proofs.YtjbpcffmeaadeaaW.PrintMore

theorem ref_act_num {w W : World} {g : Nat} {K : List S67} (x : S67) (hf : x.f0 = false) (h : RefS w g (bitsOf K) W) (hn : -9223372036854775808 ≤ x.f1 ∧ x.f1 < 9223372036854775808) (hl : (bitsOf K).length ≤ 1000000) :
    Calls Try.prog 58 #[.pointer (some ⟨g, 0, none⟩), .int .i64 x.f1, .int .i64 x.f2] W fun e W' => ∃ er, e = .returned (.int .i64 er) ∧ Aside0 (er = errA x) ∧ Aside0 (RefS w g (bitsOf (outA K x)) W' ∧ Same 3 76 W W') := by
  cases ho : okA x with
  | true =>
    obtain ⟨h0, h1, h2, h3⟩ := (okA_num hf).1 ho
    obtain ⟨j, hj⟩ := Int.eq_ofNat_of_zero_le h0
    rw [hj]
    rw [hj, show ((j : Int)).toNat = j from by omega] at h3
    refine (ref_put_fits x.f1 j h (by omega) h2 h3 hn.2 hl).mono ?_
    rintro e W' ⟨h5, h6⟩
    exact ⟨0, h5, ⟨(errA_ok ho).symm⟩, ⟨by rw [outA_ok ho, bitsOf_snoc, bitsA_num hf, hj, show ((j : Int)).toNat = j from by omega]; exact h6.out.1, h6.out.2⟩⟩
  | false =>
    have hk : ¬ okN x.f1 x.f2 := fun hk => by rw [(okA_num hf).2 hk] at ho; cases ho
    have hbad : x.f2 < 0 ∨ 32 < x.f2 ∨ x.f1 < 0 ∨ 0 < x.f1 / 2 ^ x.f2.toNat := by
      by_cases h1 : x.f2 < 0
      · exact .inl h1
      by_cases h2 : 32 < x.f2
      · exact .inr (.inl h2)
      by_cases h3 : x.f1 < 0
      · exact .inr (.inr (.inl h3))
      have h4 : 0 ≤ x.f1 / 2 ^ x.f2.toNat := Int.ediv_nonneg (by omega) (Int.le_of_lt (Int.pow_pos (by decide)))
      have h5 : x.f1 / 2 ^ x.f2.toNat ≠ 0 := fun h5 => hk ⟨by omega, by omega, by omega, h5⟩
      exact .inr (.inr (.inr (by omega)))
    refine (ref_put_range g W x.f1 x.f2 hn hbad).mono ?_
    rintro e W' ⟨h5, rfl⟩
    exact ⟨3, h5, ⟨by unfold errA; rw [ho, hf]; rfl⟩, ⟨by rw [outA_no ho]; exact h, Same.refl _ _ _⟩⟩
theorem ref_act_text {w W : World} {g : Nat} {K : List S67} (x : S67) (hf : x.f0 = true) (h : RefS w g (bitsOf K) W) (hn : x.f3.size ≤ 100) (hl : (bitsOf K).length ≤ 1000000) :
    Calls Try.prog 57 #[.pointer (some ⟨g, 0, none⟩), .string x.f3] W fun e W' => ∃ er, e = .returned (.int .i64 er) ∧ Aside0 (er = errA x) ∧ Aside0 (RefS w g (bitsOf (outA K x)) W' ∧ Same 3 76 W W') := by
  cases ho : okA x with
  | true =>
    refine (ref_code_fits x.f3 h ((okA_code hf).1 ho) (by omega) hl).mono ?_
    rintro e W' ⟨h5, h6⟩
    exact ⟨0, h5, ⟨(errA_ok ho).symm⟩, ⟨by rw [outA_ok ho, bitsOf_snoc, bitsA_code hf]; exact h6.out.1, h6.out.2⟩⟩
  | false =>
    have hk : ¬ BinT x.f3 := fun hk => by rw [(okA_code hf).2 hk] at ho; cases ho
    refine (ref_code_form g W x.f3 hk (by omega)).mono ?_
    rintro e W' ⟨h5, ⟨m, rfl⟩⟩
    exact ⟨14, h5, ⟨by unfold errA; rw [ho, hf]; rfl⟩, ⟨by rw [outA_no ho]; exact h.next (pw_below_drewN (Below.refl _ _) m), Same.of_below (pw_below_drewN (Below.refl _ _) m)⟩⟩

/-- Both pens, having taken the same acts. -/
structure PB (w : World) (g1 g2 : Nat) (K : List S67) (W : World) : Prop where
  pen : Pn w g1 (bitsOf K) W
  ref : RefS w g2 (bitsOf K) W
  oks : ∀ x ∈ K, okA x = true ∧ x.f3.size ≤ 100
theorem PB.next {w W W' : World} {g1 g2 : Nat} {K : List S67} (h : PB w g1 g2 K W) (hb : Below W.heap.size W W') : PB w g1 g2 K W' := ⟨h.pen.next hb, h.ref.next hb, h.oks⟩
theorem outA_oks {K : List S67} {x : S67} (h : ∀ y ∈ K, okA y = true ∧ y.f3.size ≤ 100) (hx : x.f3.size ≤ 100) : ∀ y ∈ outA K x, okA y = true ∧ y.f3.size ≤ 100 := by
  intro y hy
  cases ho : okA x with
  | true =>
    rw [outA_ok ho] at hy
    rcases List.mem_append.1 hy with h1 | h1
    · exact h y h1
    · obtain rfl := List.mem_singleton.1 h1; exact ⟨ho, hx⟩
  | false => rw [outA_no ho] at hy; exact h y hy
theorem outA_len (K : List S67) (x : S67) : (outA K x).length ≤ K.length + 1 := by
  cases ho : okA x with
  | true => rw [outA_ok ho]; simp
  | false => rw [outA_no ho]; omega
theorem below_from {w W V : World} (h1 : Below w.heap.size w W) (h2 : Below w.heap.size w V) (hk : Kept W V (fun _ => False)) : Below W.heap.size W V :=
  ⟨h2.os.trans h1.os.symm, h2.tape.trans h1.tape.symm, h2.output.trans h1.output.symm, hk.1, fun i hi => hk.2 i hi id⟩
/-- The cells of an act that came in, in whatever world behind. -/
theorem act_cells {w W : World} {ad : Addr} {n : Nat} {xs : List S67} {x : S67} (h : Kd.C k67 w (some ad) n xs) (hB : Below w.heap.size w W) (j : Nat) (hj : j < n) (hx : xs.getD j z67 = x) :
    W.cell? (ad.add (j * 4)) = some (.bool x.f0) ∧ W.cell? ⟨(ad.add (j * 4)).block, (ad.add (j * 4)).off + 1, none⟩ = some (.int .i64 x.f1) ∧ W.cell? ⟨(ad.add (j * 4)).block, (ad.add (j * 4)).off + 2, none⟩ = some (.int .i64 x.f2) ∧ W.cell? ⟨(ad.add (j * 4)).block, (ad.add (j * 4)).off + 3, none⟩ = some (.string x.f3) := by
  have := at_T67 (Kd.C_below h hB) (j : Int) (by omega) (by omega)
  obtain ⟨ad', he, h0, h1, h2, h3⟩ := this
  obtain rfl := Option.some.inj he
  unfold rd_T67 at h0 h1 h2 h3
  rw [show ((j : Int)).toNat = j from by omega, hx] at h0 h1 h2 h3
  exact ⟨h0, h1, h2, h3⟩
end Go.Proofs.Ytjbpcffmeaadeaa.Pp
