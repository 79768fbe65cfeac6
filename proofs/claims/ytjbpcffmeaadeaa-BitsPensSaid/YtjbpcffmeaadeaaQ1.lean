import Derived.Test.YtjbpcffmeaadeaaME
/- The reference's pen: its state; the contract of its Put. -/
namespace Go.Proofs.Ytjbpcffmeaadeaa.Pp
open Go.RowKit Go.Proofs.Ytjbpcffmeaadeaa.Pr Go.Proofs.YtjbpcffmeaadeaaW.PrintWords Go.Proofs.YtjbpcffmeaadeaaW.PrintLast Go.Proofs.YtjbpcffmeaadeaaW.PrintMore
set_option linter.unusedVariables false

theorem hold {p : Prop} (h : Aside0 p) : p := h.out
/-- The reference's pen: its bits lie in a row of their own. -/
structure RefS (w : World) (g : Nat) (L : List Int) (W : World) : Prop where
  pen : ∃ v, W.heap[g]? = some (.cells #[v] 76 (0, 0)) ∧ Kd.R (Kd.int .i64) 3 W w.heap.size (fun _ => True) v L
  below : Below w.heap.size w W
  ge : w.heap.size ≤ g
theorem RefS.next {w W W' : World} {g : Nat} {L : List Int} (h : RefS w g L W) (hb : Below W.heap.size W W') : RefS w g L W' := by
  obtain ⟨v, h1, h2⟩ := h.pen
  exact ⟨⟨v, blk_below h1 hb, Kd.R_below h2 hb⟩, below_step h.below hb, h.ge⟩
theorem e3_ne {a : Nat} (ha : 3 ≠ a) : ∀ q, q ∈ 3 :: (Kd.int .i64).E → q ≠ a := by
  intro q hq
  simp only [List.mem_cons] at hq
  rcases hq with rfl | hq
  · exact ha
  · exact absurd hq (by show ¬ q ∈ ([] : List Nat); simp)
theorem RefS.same {a b : Nat} {w W W' : World} {g : Nat} {L : List Int} (h : RefS w g L W) (hs : Same a b W W') (hb : Below w.heap.size w W') (h1 : 3 ≠ a ∧ 3 ≠ b) (h2 : 76 ≠ a ∧ 76 ≠ b) : RefS w g L W' := by
  obtain ⟨v, p1, p2⟩ := h.pen
  exact ⟨⟨v, hs.blk p1 h2.1 h2.2, hs.row p2 (fun q hq => ⟨e3_ne h1.1 q hq, e3_ne h1.2 q hq⟩)⟩, hb, h.ge⟩
theorem RefS.grow {w W w1 : World} {g : Nat} {L : List Int} {v v1 : Value} {x : Int} (hge : w.heap.size ≤ g) (hb : W.heap[g]? = some (.cells #[v] 76 (0, 0))) (hR : Kd.R (Kd.int .i64) 3 W w.heap.size (fun _ => True) v L)
    (hR1 : Kd.R (Kd.int .i64) 3 w1 w.heap.size (fun _ => True) v1 (L ++ [x])) (hB1 : Below w.heap.size w w1) (hg1 : W.grownBy w1 v.ownBlock) :
    w1.heap[g]? = some (.cells #[v] 76 (0, 0)) ∧ RefS w g (L ++ [x]) (w1.setCell ⟨g, 0, none⟩ v1) ∧ Same 3 76 W (w1.setCell ⟨g, 0, none⟩ v1) := by
  have hne := Kd.R_ne hR hb (by decide)
  have hb1 := blk_grown hb hg1 hne
  have hs1 : Same 3 76 W w1 := Kept.of_grown hg1 (Kept.refl _ _) (fun k hk => .inl (by obtain ⟨cells, hc⟩ := Kd.R_typed hR k hk; exact ⟨cells, .inl hc⟩))
  refine ⟨hb1, ⟨⟨v1, blk_put hb1 0 v1 rfl, Kd.R_set hR1 hb1 (e3_ne (by decide)) 0 v1⟩, hB1.setCell (p := ⟨g, 0, none⟩) hge _, hge⟩, hs1.setCell (p := ⟨g, 0, none⟩) (.inl ⟨_, .inr hb⟩) _⟩

set_option maxHeartbeats 8000000 in
set_option maxRecDepth 100000 in
theorem ref_put_fits {w W : World} {g : Nat} {L : List Int} (n : Int) (m : Nat) (h : RefS w g L W) (hm : m ≤ 32) (hn : 0 ≤ n) (hn2 : n / 2 ^ m = 0) (hn3 : n < 9223372036854775808) (hl : L.length ≤ 1000000) :
    Calls Try.prog 58 #[.pointer (some ⟨g, 0, none⟩), .int .i64 n, .int .i64 (m : Int)] W fun e W' => e = .returned (.int .i64 0) ∧ Aside0 (RefS w g (L ++ pd n m) W' ∧ Same 3 76 W W') := by
  have H := Aside0.mk h
  have hd1 : decide ((m : Int) < 0) = false := decide_eq_false (by omega)
  have hd2 : decide ((m : Int) > 32) = false := decide_eq_false (by omega)
  have hd2' : decide (32 < (m : Int)) = false := decide_eq_false (by omega)
  have hd3 : decide (n < 0) = false := decide_eq_false (by omega)
  have hu : IntKind.u64.wrap (m : Int) = (m : Int) := by rw [IntKind.wrap_u64]; omega
  obtain ⟨v, hb, hR⟩ := h.pen
  obtain ⟨A, c, rfl⟩ := Kd.R_slice hR
  have hc0 : W.cell? ⟨g, 0, none⟩ = some (.slice A L.length c) := (blk_cell hb 0).trans rfl
  have hwl : IntKind.i64.wrap ((L.length : Int) + m) = (L.length : Int) + m := by rw [IntKind.wrap_i64]; omega
  have hfl : decide ((L.length : Int) + (m : Int) > 16777216) = false := decide_eq_false (by omega)
  have hfl' : decide (16777216 < (L.length : Int) + (m : Int)) = false := decide_eq_false (by omega)
  have hp33 := pow33 (n := m) (by omega)
  have hpp : (0 : Int) < 2 ^ m := Int.pow_pos (by decide)
  have hnm : n < 2 ^ m := by
    have e1 := Int.mul_ediv_add_emod n (2 ^ m)
    have e2 := Int.emod_lt_of_pos n hpp
    rw [hn2] at e1
    omega
  have hsh : decide (wrap64 ((2 : Int) ^ m) ≤ n) = false := decide_eq_false (by rw [w64 _ (by omega) (by omega)]; omega)
  have hsh2 : decide (n ≥ wrap64 ((2 : Int) ^ m)) = false := hsh
  have hsh3 : decide ((2 : Int) ^ m ≤ n) = false := decide_eq_false (by omega)
  have hwm : IntKind.i64.wrap ((m : Int) - 1) = (m : Int) - 1 := by rw [IntKind.wrap_i64]; omega
  clear h hb hR hnm
  go_enter Try.func58, Try.ntmps58
  go_wp2_with (fail)
  go_loopw [7] (fun v7 wr => ∃ (i : Int) (Lc : List Int), v7 = .int .i64 i ∧ -1 ≤ i ∧ i < m ∧ Aside0 (Lc ++ pd n (i + 1).toNat = L ++ pd n m) ∧ Lc.length ≤ 1000100 ∧ Aside0 (RefS w g Lc wr ∧ Same 3 76 W wr)) (fun v7 _ => (intOf v7 + 1).toNat)
  case atStart => exact ⟨(m : Int) - 1, L, rfl, by omega, by omega, ⟨by rw [show ((m : Int) - 1 + 1).toNat = m from by omega]⟩, by omega, ⟨H.out, Same.refl _ _ _⟩⟩
  case round =>
    clear H hc0
    obtain ⟨i, Lc, rfl, hi1, hi2, HL, hLc, HR⟩ := hrel
    by_cases hneg : i < 0
    · obtain rfl : i = -1 := by omega
      have hge : decide ((-1 : Int) ≥ 0) = false := rfl
      have hE : Lc = L ++ pd n m := by have := HL.out; simpa [pd] using this
      subst hE
      go_wp2
      go_ret
      exact ⟨rfl, HR⟩
    · obtain ⟨j, rfl⟩ := Int.eq_ofNat_of_zero_le (show 0 ≤ i by omega)
      have hge : decide ((j : Int) ≥ 0) = true := decide_eq_true (by omega)
      have huj : IntKind.u64.wrap (j : Int) = (j : Int) := by rw [IntKind.wrap_u64]; omega
      have hdv := div_pow_le63 n j hn hn3
      have hrem : Int.tmod (n / 2 ^ j) 2 = n / 2 ^ j % 2 := Int.tmod_eq_emod_of_nonneg hdv.1
      have hrem' : Int.tmod (n / 2 ^ min j 64) 2 = n / 2 ^ j % 2 := by rw [Nat.min_eq_left (by omega)]; exact hrem
      have hLl : Lc.length + (j + 1) = L.length + m := by
        have := congrArg List.length HL.out
        rw [List.length_append, List.length_append, pd_length, pd_length] at this
        omega
      have HL2 := Aside0.mk (show (Lc ++ [n / 2 ^ j % 2]) ++ pd n j = L ++ pd n m by
        have := HL.out
        rw [show ((j : Int) + 1).toNat = j + 1 from by omega] at this
        rw [← this]; simp [pd])
      obtain ⟨v2, hb, hR⟩ := HR.out.1.pen
      obtain ⟨A2, c2, rfl⟩ := Kd.R_slice hR
      have hc0 : wr.cell? ⟨g, 0, none⟩ = some (.slice A2 Lc.length c2) := (blk_cell hb 0).trans rfl
      have Hb := Aside0.mk hb
      have HRr := Aside0.mk hR
      clear HL hb hR hdv
      go_wp2_with ((with_reducible refine gate_builtin (b := .append) (xs := #[.tmp 43, .tmp 49]) rfl ?_); at_builtin; refine hold ?_)
      refine ⟨?_⟩
      refine Kd.R_append (Kd.int .i64) (w0 := w) (W := wr) w.heap.size rfl (.tmp 43) (.tmp 49) 44 3 (.int .i64 0) 8 rfl Try.underlying44 info3 rfl (by decide) (by decide) _ Lc (n / 2 ^ j % 2) [.int .i64 (n / 2 ^ j % 2)] (fun _ => True) (fun _ => False) rfl rfl (show Kd.M (Kd.int .i64) _ _ _ (n / 2 ^ j % 2) [.int .i64 (n / 2 ^ j % 2)] from rfl) (fun _ hk => hk.elim) (fun _ _ => trivial) HRr.out HR.out.1.below HR.out.1.below.size (by omega) ?_
      intro v1 w5 hR1 hB1 hg1 hat1
      obtain ⟨A5, c5, rfl⟩ := Kd.R_slice hR1
      have hgl : (Lc ++ [n / 2 ^ j % 2]).length = Lc.length + 1 := by simp
      rw [hgl] at hR1
      obtain ⟨hb5, hS5, hs5⟩ := RefS.grow HR.out.1.ge Hb.out HRr.out hR1 hB1 hg1
      have HS := Aside0.mk (show RefS w g (Lc ++ [n / 2 ^ j % 2]) (w5.setCell ⟨g, 0, none⟩ (.slice A5 (Lc.length + 1) c5)) ∧ Same 3 76 W (w5.setCell ⟨g, 0, none⟩ (.slice A5 (Lc.length + 1) c5)) from ⟨hS5, HR.out.2.trans hs5⟩)
      have hf5 := blk_frozen hb5 0
      have hc5 : w5.cell? ⟨g, 0, none⟩ = some (.slice A2 Lc.length c2) := (blk_cell hb5 0).trans rfl
      have hwj : IntKind.i64.wrap ((j : Int) - 1) = (j : Int) - 1 := by rw [IntKind.wrap_i64]; omega
      clear hR1 hB1 hg1 hat1 hS5 hs5 hb5 Hb HRr HR hc0 hgl
      go_wp2
      go_roundw
      case rel => exact ⟨(j : Int) - 1, Lc ++ [n / 2 ^ j % 2], rfl, by omega, by omega, ⟨by rw [show ((j : Int) - 1 + 1).toNat = j from by omega]; exact HL2.out⟩, by simp; omega, HS⟩
      case measure => simp [intOf]
end Go.Proofs.Ytjbpcffmeaadeaa.Pp
