import Derived.Test.YtjbpcffmeaadeaaQ1
/- Contracts of the reference's pen: Put of what is out of range; Code. -/
namespace Go.Proofs.Ytjbpcffmeaadeaa.Pp
open Go.RowKit Go.Proofs.Ytjbpcffmeaadeaa.Pr Go.Proofs.YtjbpcffmeaadeaaW.PrintWords Go.Proofs.YtjbpcffmeaadeaaW.PrintLast Go.Proofs.YtjbpcffmeaadeaaW.PrintMore
set_option linter.unusedVariables false

set_option maxHeartbeats 4000000 in
set_option maxRecDepth 100000 in
theorem ref_put_range (g : Nat) (W : World) (n m : Int) (hn3 : -9223372036854775808 ≤ n ∧ n < 9223372036854775808) (hbad : m < 0 ∨ 32 < m ∨ n < 0 ∨ 0 < n / 2 ^ m.toNat) :
    Calls Try.prog 58 #[.pointer (some ⟨g, 0, none⟩), .int .i64 n, .int .i64 m] W fun e W' => e = .returned (.int .i64 3) ∧ W = W' := by
  by_cases h1 : m < 0
  · have hd1 : decide (m < 0) = true := decide_eq_true h1
    go_enter Try.func58, Try.ntmps58
    go_wp2
    go_ret
    exact ⟨rfl, rfl⟩
  have hd1 : decide (m < 0) = false := decide_eq_false h1
  by_cases h2 : m > 32
  · have hd2 : decide (m > 32) = true := decide_eq_true h2
    have hd2' : decide (32 < m) = true := decide_eq_true h2
    go_enter Try.func58, Try.ntmps58
    go_wp2
    go_ret
    exact ⟨rfl, rfl⟩
  have hd2 : decide (m > 32) = false := decide_eq_false h2
  have hd2' : decide (32 < m) = false := decide_eq_false h2
  by_cases h3 : n < 0
  · have hd3 : decide (n < 0) = true := decide_eq_true h3
    go_enter Try.func58, Try.ntmps58
    go_wp2
    go_ret
    exact ⟨rfl, rfl⟩
  have hd3 : decide (n < 0) = false := decide_eq_false h3
  obtain ⟨j, rfl⟩ := Int.eq_ofNat_of_zero_le (show 0 ≤ m by omega)
  have h4 : 0 < n / 2 ^ j := by
    rcases hbad with h | h | h | h
    · omega
    · omega
    · omega
    · rwa [show ((j : Int)).toNat = j from by omega] at h
  have hu : IntKind.u64.wrap (j : Int) = (j : Int) := by rw [IntKind.wrap_u64]; omega
  have hp33 := pow33 (n := j) (by omega)
  have hpp : (0 : Int) < 2 ^ j := Int.pow_pos (by decide)
  have hnm : (2 : Int) ^ j ≤ n := by
    have e1 := Int.mul_ediv_add_emod n (2 ^ j)
    have e2 := Int.emod_nonneg n (show (2 : Int) ^ j ≠ 0 by omega)
    have e3 : 2 ^ j * 1 ≤ 2 ^ j * (n / 2 ^ j) := Int.mul_le_mul_of_nonneg_left (by omega) (by omega)
    omega
  have hsh3 : decide ((2 : Int) ^ j ≤ n) = true := decide_eq_true hnm
  have hsh4 : decide (n ≥ (2 : Int) ^ j) = true := hsh3
  clear hbad hnm h4
  go_enter Try.func58, Try.ntmps58
  go_wp2
  go_ret
  exact ⟨rfl, rfl⟩

set_option maxHeartbeats 4000000 in
set_option maxRecDepth 100000 in
theorem ref_code_form (g : Nat) (W : World) (s : ByteArray) (hs : ¬ BinT s) (hn : s.size ≤ 1000) :
    Calls Try.prog 57 #[.pointer (some ⟨g, 0, none⟩), .string s] W fun e W' => e = .returned (.int .i64 14) ∧ Drawn0 W W' := by
  obtain ⟨q, hq, hq1, hq2⟩ : ∃ q : Nat, q < s.size ∧ bt s (q : Int) ≠ 48 ∧ bt s (q : Int) ≠ 49 := by
    refine Classical.byContradiction fun hn => hs fun i hi => ?_
    by_cases h1 : bt s (i : Int) = 48
    · exact .inl h1
    · by_cases h2 : bt s (i : Int) = 49
      · exact .inr h2
      · exact absurd ⟨i, hi, h1, h2⟩ hn
  clear hs
  go_enter Try.func57, Try.ntmps57
  go_wp2
  go_loopw [5] (fun v13 wr => ∃ (i : Nat), v13 = .int .i64 (i : Int) ∧ i ≤ q ∧ Drawn0 W wr) (fun v13 _ => s.size - (intOf v13).toNat)
  case atStart => exact ⟨0, rfl, by omega, Drawn0.refl _⟩
  case round =>
    obtain ⟨i, rfl, hi, ⟨m, rfl⟩⟩ := hrel
    have hlt : (i : Int) < (s.size : Int) := by omega
    have hd : decide ((i : Int) < (s.size : Int)) = true := decide_eq_true hlt
    have p4 : 0 ≤ (i : Int) := by omega
    have q4 : (i : Int) < (s.size : Int) := hlt
    have hx4 : ∀ h : i < s.size, ((s[i]'h).toNat : Int) = bt s (i : Int) := fun h => by simp [bt, h]
    have hw1 : IntKind.i64.wrap ((i : Int) + 1) = ((i + 1 : Nat) : Int) := by rw [IntKind.wrap_i64]; omega
    have hiq : (bt s (i : Int) = 48 ∨ bt s (i : Int) = 49) → i ≠ q := by rintro h rfl; omega
    have Hq := Aside0.mk hiq
    clear hiq hq1 hq2
    replace p4 := eq_true p4
    replace q4 := eq_true q4
    by_cases h48 : bt s (i : Int) = 48
    · have hb1 : (bt s (i : Int) != 48) = false := bne_eq_false_iff_eq.mpr h48
      have hne := Hq.out (.inl h48)
      go_wp2
      go_roundw
      case rel => exact ⟨i + 1, rfl, by omega, by repeat (first | exact Drawn0.refl _ | apply Drawn0.step)⟩
      case measure => simp [intOf]; omega
    · have hb1 : (bt s (i : Int) != 48) = true := bne_iff_ne.mpr (by omega)
      by_cases h49 : bt s (i : Int) = 49
      · have hb2 : (bt s (i : Int) != 49) = false := bne_eq_false_iff_eq.mpr h49
        have hne := Hq.out (.inr h49)
        go_wp2
        go_roundw
        case rel => exact ⟨i + 1, rfl, by omega, by repeat (first | exact Drawn0.refl _ | apply Drawn0.step)⟩
        case measure => simp [intOf]; omega
      · have hb2 : (bt s (i : Int) != 49) = true := bne_iff_ne.mpr (by omega)
        go_wp2
        go_ret
        exact ⟨rfl, by repeat (first | exact Drawn0.refl _ | apply Drawn0.step)⟩

set_option maxHeartbeats 16000000 in
set_option maxRecDepth 100000 in
theorem ref_code_fits {w W : World} {g : Nat} {L : List Int} (s : ByteArray) (h : RefS w g L W) (hs : BinT s) (hn : s.size ≤ 1000) (hl : L.length ≤ 1000000) :
    Calls Try.prog 57 #[.pointer (some ⟨g, 0, none⟩), .string s] W fun e W' => e = .returned (.int .i64 0) ∧ Aside0 (RefS w g (L ++ cd s s.size) W' ∧ Same 3 76 W W') := by
  have H := Aside0.mk h
  have Hs := Aside0.mk hs
  clear h hs
  go_enter Try.func57, Try.ntmps57
  go_wp2
  go_loopw [5] (fun v13 wr => ∃ (i : Nat), v13 = .int .i64 (i : Int) ∧ i ≤ s.size ∧ Drawn0 W wr) (fun v13 _ => s.size - (intOf v13).toNat)
  case atStart => exact ⟨0, rfl, by omega, Drawn0.refl _⟩
  case round =>
    obtain ⟨i, rfl, hi, ⟨m, rfl⟩⟩ := hrel
    by_cases hlt : (i : Int) < (s.size : Int)
    · have hd : decide ((i : Int) < (s.size : Int)) = true := decide_eq_true hlt
      have p4 : 0 ≤ (i : Int) := by omega
      have q4 : (i : Int) < (s.size : Int) := hlt
      have hx4 : ∀ h : i < s.size, ((s[i]'h).toNat : Int) = bt s (i : Int) := fun h => by simp [bt, h]
      replace p4 := eq_true p4
      replace q4 := eq_true q4
      have hw1 : IntKind.i64.wrap ((i : Int) + 1) = ((i + 1 : Nat) : Int) := by rw [IntKind.wrap_i64]; omega
      rcases Hs.out i (by omega) with h48 | h49
      · have hb1 : (bt s (i : Int) != 48) = false := bne_eq_false_iff_eq.mpr h48
        go_wp2
        go_roundw
        case rel => exact ⟨i + 1, rfl, by omega, by repeat (first | exact Drawn0.refl _ | apply Drawn0.step)⟩
        case measure => simp [intOf]; omega
      · have hb1 : (bt s (i : Int) != 48) = true := bne_iff_ne.mpr (by omega)
        have hb2 : (bt s (i : Int) != 49) = false := bne_eq_false_iff_eq.mpr h49
        go_wp2
        go_roundw
        case rel => exact ⟨i + 1, rfl, by omega, by repeat (first | exact Drawn0.refl _ | apply Drawn0.step)⟩
        case measure => simp [intOf]; omega
    · have hd : decide ((i : Int) < (s.size : Int)) = false := decide_eq_false hlt
      obtain ⟨V, hV⟩ : ∃ V, W.drewN m = V := ⟨_, rfl⟩
      have H2 := Aside0.mk (show RefS w g L V ∧ Same 3 76 W V from by rw [← hV]; exact ⟨H.out.next (pw_below_drewN (Below.refl _ _) m), Same.of_below (pw_below_drewN (Below.refl _ _) m)⟩)
      obtain ⟨v, hb, hR⟩ := H2.out.1.pen
      obtain ⟨A, c, rfl⟩ := Kd.R_slice hR
      have hc0 : V.cell? ⟨g, 0, none⟩ = some (.slice A L.length c) := (blk_cell hb 0).trans rfl
      have hwl : IntKind.i64.wrap ((L.length : Int) + s.size) = (L.length : Int) + s.size := by rw [IntKind.wrap_i64]; omega
      have hfl : decide ((L.length : Int) + (s.size : Int) > 16777216) = false := decide_eq_false (by omega)
      have hfl' : decide (16777216 < (L.length : Int) + (s.size : Int)) = false := decide_eq_false (by omega)
      clear hb hR H
      go_wp2_with (fail)
      go_loopw [6] (fun v6 wr => ∃ (p : Nat) (Lc : List Int), v6 = .int .i64 (p : Int) ∧ p ≤ s.size ∧ Aside0 (Lc = L ++ cd s p) ∧ Lc.length ≤ 1000000 + p ∧ Aside0 (RefS w g Lc wr ∧ Same 3 76 W wr)) (fun v6 _ => s.size - (intOf v6).toNat)
      case atStart => exact ⟨0, L, rfl, by omega, ⟨by simp [cd]⟩, by omega, H2⟩
      case round =>
        clear H2 hc0 hV hd hlt hi
        obtain ⟨p, Lc, rfl, hp, HE, hLc, HR⟩ := hrel
        by_cases hps : (p : Int) < (s.size : Int)
        · have hd : decide ((p : Int) < (s.size : Int)) = true := decide_eq_true hps
          have p4 : 0 ≤ (p : Int) := by omega
          have q4 : (p : Int) < (s.size : Int) := hps
          obtain ⟨Y, hY⟩ : ∃ Y, bt s (p : Int) = Y := ⟨_, rfl⟩
          have hbt := Hs.out p (by omega)
          rw [hY] at hbt
          have hx4 : ∀ h : p < s.size, ((s[p]'h).toNat : Int) = Y := fun h => by rw [← hY]; simp [bt, h]
          have Hcd := Aside0.mk (show cd s (p + 1) = cd s p ++ [Y - 48] by simp only [cd]; rw [hY])
          replace p4 := eq_true p4
          replace q4 := eq_true q4
          obtain ⟨X, hX⟩ : ∃ X, Y - 48 = X := ⟨_, rfl⟩
          rw [hX] at Hcd
          have hw48 : IntKind.u8.wrap (Y - 48) = X := by rw [IntKind.wrap_u8]; omega
          have hw48' : IntKind.i64.wrap X = X := by rw [IntKind.wrap_i64]; omega
          have hwp : IntKind.i64.wrap ((p : Int) + 1) = ((p + 1 : Nat) : Int) := by rw [IntKind.wrap_i64]; omega
          obtain ⟨v2, hb, hR⟩ := HR.out.1.pen
          obtain ⟨A2, c2, rfl⟩ := Kd.R_slice hR
          have hb1 : wr.drew.heap[g]? = _ := blk_drew hb
          have hca : wr.drew.cell? ⟨g, 0, none⟩ = some (.slice A2 Lc.length c2) := (blk_cell hb1 0).trans rfl
          have hcb : ∀ o, (wr.drew.alloc o).cell? ⟨g, 0, none⟩ = some (.slice A2 Lc.length c2) := fun o => (blk_cell (blk_alloc hb1 o) 0).trans rfl
          have hcc : ∀ o, (wr.alloc o).drew.cell? ⟨g, 0, none⟩ = some (.slice A2 Lc.length c2) := fun o => (blk_cell (blk_drew (blk_alloc hb o)) 0).trans rfl
          have Hb := Aside0.mk hb1
          have HRr := Aside0.mk (Kd.R_drew hR)
          clear hb hR hb1 hY hX hbt
          go_wp2_with (fail)
          refine wp_region_any (by kernel_rfl) ?_
          change wpAny _ _ _ _ _ _ _ (World.drew _)
          refine wpAny_take (i := 0) (v := ?_) rfl (by kernel_rfl) (by kernel_rfl) (by kernel_rfl) (fun _ _ _ h => h) (Or.inl ⟨by rfl, ?h0⟩) ?_
          case h0 => (intro w_; go_simp; first | done | with_reducible rfl)
          go_simp
          refine wpAny_take (i := 1) (v := ?_) rfl (by kernel_rfl) (by kernel_rfl) (by kernel_rfl) (fun _ _ _ h => h) (Or.inl ⟨by rfl, ?h1⟩) ?_
          case h1 => (intro w_; go_simp; first | done | with_reducible rfl)
          go_simp
          refine wpAny_take (i := 2) (v := ?_) rfl (by kernel_rfl) (by kernel_rfl) (by kernel_rfl) (fun _ _ _ h => h) (Or.inl ⟨by rfl, ?h2⟩) ?_
          case h2 => (intro w_; go_simp; first | done | with_reducible rfl)
          go_simp
          refine wpAny_take (i := 3) (v := ?_) rfl (by kernel_rfl) (by kernel_rfl) (by kernel_rfl) (fun _ _ _ h => h) (Or.inl ⟨by rfl, ?h3⟩) ?_
          case h3 => (intro w_; go_simp; first | done | with_reducible rfl)
          go_simp
          refine wpAny_take (i := 5) (v := ?_) rfl (by kernel_rfl) (by kernel_rfl) (by kernel_rfl) (fun _ _ _ h => h) (Or.inl ⟨by rfl, ?h5⟩) ?_
          case h5 => (intro w_; go_simp; first | done | with_reducible rfl)
          go_simp
          refine wpAny_take (i := 6) (v := ?_) rfl (by kernel_rfl) (by kernel_rfl) (by kernel_rfl) (fun _ _ _ h => h) (Or.inl ⟨by rfl, ?h6⟩) ?_
          case h6 => (intro w_; go_simp; first | done | with_reducible rfl)
          go_simp
          refine wpAny_take (i := 7) (v := ?_) rfl (by kernel_rfl) (by kernel_rfl) (by kernel_rfl) (fun _ _ _ h => h) (Or.inl ⟨by rfl, ?h7⟩) ?_
          case h7 => (intro w_; go_simp; first | done | with_reducible rfl)
          go_simp
          refine wpAny_take (i := 8) (v := ?_) rfl (by kernel_rfl) (by kernel_rfl) (by kernel_rfl) (fun _ _ _ h => h) (Or.inl ⟨by rfl, ?h8⟩) ?_
          case h8 => (intro w_; go_simp; first | done | with_reducible rfl)
          go_simp
          refine wpAny_take (i := 9) (v := ?_) rfl (by kernel_rfl) (by kernel_rfl) (by kernel_rfl) (fun _ _ _ h => h) (Or.inl ⟨by rfl, ?h9⟩) ?_
          case h9 => (intro w_; go_simp; first | done | with_reducible rfl)
          go_simp
          refine wpAny_ready (rs := [4, 10]) (by kernel_rfl) (by simp) ?_
          refine AllReady.cons rfl (fun K hK => ?_) ?_
          · go_simp
            refine hK _ _ ?_
            clear hK K
            refine wpAny_ready (rs := [10]) (by kernel_rfl) (by simp) ?_
            refine AllReady.cons rfl (fun K hK => ?_) AllReady.nil
            go_simp
            refine hK _ _ ?_
            clear hK K
            refine wpAny_ready (rs := [11]) (by kernel_rfl) (by simp) ?_
            refine AllReady.cons rfl (fun K hK => ?_) AllReady.nil
            refine Kd.R_append_step (Kd.int .i64) (w0 := w) (W := wr.drew) w.heap.size (by rfl) (.tmp 42) (.tmp 48) 44 3 (.int .i64 0) 8 rfl Try.underlying44 info3 rfl (by decide) (by decide) _ Lc X [.int .i64 X] (fun _ => True) (fun _ => False) rfl rfl (show Kd.M (Kd.int .i64) _ _ _ X [.int .i64 X] from rfl) (fun _ hk => hk.elim) (fun _ _ => trivial) HRr.out (below_drew HR.out.1.below) (below_drew HR.out.1.below).size (by omega) ?_
            intro v1 w5 hR1 hB1 hg1 hat1
            obtain ⟨A5, c5, rfl⟩ := Kd.R_slice hR1
            have hgl : (Lc ++ [X]).length = Lc.length + 1 := by simp
            rw [hgl] at hR1
            obtain ⟨hb5, hS5, hs5⟩ := RefS.grow HR.out.1.ge Hb.out HRr.out hR1 hB1 hg1
            have HS := Aside0.mk (show RefS w g (Lc ++ [X]) (w5.setCell ⟨g, 0, none⟩ (.slice A5 (Lc.length + 1) c5)) ∧ Same 3 76 W (w5.setCell ⟨g, 0, none⟩ (.slice A5 (Lc.length + 1) c5)) from ⟨hS5, (HR.out.2.trans (Same.of_below (below_drew (Below.refl _ _)))).trans hs5⟩)
            have hf5 := blk_frozen hb5 0
            have hc5 : w5.cell? ⟨g, 0, none⟩ = some (.slice A2 Lc.length c2) := (blk_cell hb5 0).trans rfl
            clear hR1 hB1 hg1 hat1 hS5 hs5 hb5 hgl
            refine hK _ _ ?_
            clear hK K
            refine wpAny_take (i := 12) (v := ?_) rfl (by kernel_rfl) (by kernel_rfl) (by kernel_rfl) (fun _ _ _ h => h) (Or.inl ⟨by rfl, ?h12⟩) ?_
            case h12 => (intro w_; go_simp; first | done | with_reducible rfl)
            go_simp
            refine wpAny_take (i := 13) (v := ?_) rfl (by kernel_rfl) (by kernel_rfl) (by kernel_rfl) (fun _ _ _ h => h) (Or.inl ⟨by rfl, ?h13⟩) ?_
            case h13 => (intro w_; go_simp; first | done | with_reducible rfl)
            go_simp
            refine wpAny_ready (rs := [14]) (by kernel_rfl) (by simp) ?_
            refine AllReady.cons rfl (fun K hK => ?_) AllReady.nil
            go_simp
            refine hK _ _ ?_
            clear hK K
            refine wpAny_done (by kernel_rfl) ?_ _
            go_wp2
            go_roundw
            case rel => exact ⟨p + 1, Lc ++ [X], rfl, by omega, ⟨by rw [HE.out, Hcd.out, List.append_assoc]⟩, by simp; omega, HS⟩
            case measure => simp [intOf]; omega
          refine AllReady.cons rfl (fun K hK => ?_) AllReady.nil
          go_simp
          refine hK _ _ ?_
          clear hK K
          refine wpAny_ready (rs := [4]) (by kernel_rfl) (by simp) ?_
          refine AllReady.cons rfl (fun K hK => ?_) AllReady.nil
          go_simp
          refine hK _ _ ?_
          clear hK K
          refine wpAny_ready (rs := [11]) (by kernel_rfl) (by simp) ?_
          refine AllReady.cons rfl (fun K hK => ?_) AllReady.nil
          refine Kd.R_append_step (Kd.int .i64) (w0 := w) (W := wr.drew) w.heap.size (by rfl) (.tmp 42) (.tmp 48) 44 3 (.int .i64 0) 8 rfl Try.underlying44 info3 rfl (by decide) (by decide) _ Lc X [.int .i64 X] (fun _ => True) (fun _ => False) rfl rfl (show Kd.M (Kd.int .i64) _ _ _ X [.int .i64 X] from rfl) (fun _ hk => hk.elim) (fun _ _ => trivial) HRr.out (below_drew HR.out.1.below) (below_drew HR.out.1.below).size (by omega) ?_
          intro v1 w5 hR1 hB1 hg1 hat1
          obtain ⟨A5, c5, rfl⟩ := Kd.R_slice hR1
          have hgl : (Lc ++ [X]).length = Lc.length + 1 := by simp
          rw [hgl] at hR1
          obtain ⟨hb5, hS5, hs5⟩ := RefS.grow HR.out.1.ge Hb.out HRr.out hR1 hB1 hg1
          have HS := Aside0.mk (show RefS w g (Lc ++ [X]) (w5.setCell ⟨g, 0, none⟩ (.slice A5 (Lc.length + 1) c5)) ∧ Same 3 76 W (w5.setCell ⟨g, 0, none⟩ (.slice A5 (Lc.length + 1) c5)) from ⟨hS5, (HR.out.2.trans (Same.of_below (below_drew (Below.refl _ _)))).trans hs5⟩)
          have hf5 := blk_frozen hb5 0
          have hc5 : w5.cell? ⟨g, 0, none⟩ = some (.slice A2 Lc.length c2) := (blk_cell hb5 0).trans rfl
          clear hR1 hB1 hg1 hat1 hS5 hs5 hb5 hgl
          refine hK _ _ ?_
          clear hK K
          refine wpAny_take (i := 12) (v := ?_) rfl (by kernel_rfl) (by kernel_rfl) (by kernel_rfl) (fun _ _ _ h => h) (Or.inl ⟨by rfl, ?h12⟩) ?_
          case h12 => (intro w_; go_simp; first | done | with_reducible rfl)
          go_simp
          refine wpAny_take (i := 13) (v := ?_) rfl (by kernel_rfl) (by kernel_rfl) (by kernel_rfl) (fun _ _ _ h => h) (Or.inl ⟨by rfl, ?h13⟩) ?_
          case h13 => (intro w_; go_simp; first | done | with_reducible rfl)
          go_simp
          refine wpAny_ready (rs := [14]) (by kernel_rfl) (by simp) ?_
          refine AllReady.cons rfl (fun K hK => ?_) AllReady.nil
          go_simp
          refine hK _ _ ?_
          clear hK K
          refine wpAny_done (by kernel_rfl) ?_ _
          go_wp2
          go_roundw
          case rel => exact ⟨p + 1, Lc ++ [X], rfl, by omega, ⟨by rw [HE.out, Hcd.out, List.append_assoc]⟩, by simp; omega, HS⟩
          case measure => simp [intOf]; omega
        · have hd : decide ((p : Int) < (s.size : Int)) = false := decide_eq_false hps
          obtain rfl : p = s.size := by omega
          have hE := HE.out
          subst hE
          go_wp2
          go_ret
          exact ⟨rfl, HR⟩
end Go.Proofs.Ytjbpcffmeaadeaa.Pp
