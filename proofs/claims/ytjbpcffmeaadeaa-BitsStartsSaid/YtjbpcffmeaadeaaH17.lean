import Derived.Test.YtjbpcffmeaadeaaP8
/- The walk of BitsStarts, by hand. -/
namespace Go.Proofs.Ytjbpcffmeaadeaa.Pp
open Go.RowKit Go.Proofs.Ytjbpcffmeaadeaa.Pr Go.Proofs.YtjbpcffmeaadeaaW.PrintWords Go.Proofs.YtjbpcffmeaadeaaW.PrintLast Go.Proofs.YtjbpcffmeaadeaaW.PrintMore
set_option linter.unusedVariables false

/-- n bits from a place on. -/
def bl (l : List Int) (a : Nat) : Nat → List Int
  | 0 => []
  | n + 1 => bl l a n ++ [bitB l (a + n)]
theorem bl_length (l : List Int) (a n : Nat) : (bl l a n).length = n := by
  induction n with
  | zero => rfl
  | succ n ih => simp [bl, ih]
theorem pd_bit (x : Int) (h : x = 0 ∨ x = 1) : pd x 1 = [x] := by rcases h with rfl | rfl <;> rfl

set_option maxHeartbeats 8000000 in
set_option maxRecDepth 100000 in
theorem starts_walk (A0 : Option Addr) (c0 : Nat) (l0 : List Int) (a1 a2 : Int) (w : World) (p m : Nat) (x n e q f : Int) (b1 : Bool) (hC : Kd.C (Kd.int .u8) w A0 l0.length l0) (hc0 : l0.length ≤ c0)
    (hp : l0.length ≤ 60 → praxinoscopekit_Pick.f a1 (8 * (l0.length : Int) + 1) = some (p : Int)) (hps : l0.length ≤ 60 → p ≤ 8 * l0.length) (hs : l0.length ≤ 60 → bits_Start.f l0 (p : Int) = some (x, n, e)) (hf : l0.length ≤ 60 → bits_Find.f l0 (p : Int) = some (q, f))
    (hbad : e ≠ 0 → x = 0 ∧ n = 0 ∧ (e = 5 ∨ e = 7))
    (hgood : e = 0 → l0.length ≤ 60 → f = 0 ∧ 20 ≤ n ∧ n ≤ 1000 ∧ q = (p : Int) + n - 20 ∧ praxinoscopelaw01_reads.f 60 l0 (p : Int) (n - 5) 0 0 = some b1 ∧ (b1 = true ∨ b1 = false ∧ 37 < n) ∧ praxinoscopelaw01_reads.f 60 l0 ((p : Int) + n - 4) 4 x 0 = some true)
    (hm : praxinoscopekit_Pick.f a2 41 = some (m : Int)) (hm2 : m ≤ 40)
    (hr : l0.length ≤ 60 → ∀ i : Nat, i < 8 * l0.length → bits_Read.f 60 l0 (i : Int) 1 = some (bitB l0 i, 0))
    (hfin : e = 0 → l0.length ≤ 60 → ∀ bs, Packs (List.replicate m 0 ++ bl l0 p (8 * l0.length - p)) bs → praxinoscopelaw01_starts.f bs 0 x (n + m) 0 = some true) :
    Calls Try.prog 17 #[.slice A0 l0.length c0, .int .i64 a1, .int .i64 a2] w fun e w' => e = .returned (.bool true) ∧ Below w.heap.size w w' := by
  by_cases h60 : (l0.length : Int) > 60
  · have hb : decide ((l0.length : Int) > 60) = true := decide_eq_true h60
    have hb' : decide (60 < (l0.length : Int)) = true := decide_eq_true h60
    clear hp hs hf hgood hr hfin
    go_enter Try.func17, Try.ntmps17
    go_wp2_with (fail)
    refine (known_calls w).mono ?_
    rintro e w1 ⟨rfl, hB⟩
    have HB := Aside0.mk hB
    clear hB
    go_wp2
    go_ret
    exact ⟨rfl, HB.out⟩
  · have hb : decide ((l0.length : Int) > 60) = false := decide_eq_false h60
    have hb' : decide (60 < (l0.length : Int)) = false := decide_eq_false h60
    have hl : l0.length ≤ 60 := by omega
    replace hps := hps hl
    have Hp := Aside0.mk (hp hl)
    have Hs := Aside0.mk (hs hl)
    have Hf := Aside0.mk (hf hl)
    have Hm := Aside0.mk hm
    have Hr := Aside0.mk (hr hl)
    have HC := Aside0.mk hC
    have hw1 : IntKind.i64.wrap (8 * (l0.length : Int)) = 8 * (l0.length : Int) := by rw [IntKind.wrap_i64]; omega
    have hw2 : IntKind.i64.wrap (8 * (l0.length : Int) + 1) = 8 * (l0.length : Int) + 1 := by rw [IntKind.wrap_i64]; omega
    clear hp hs hf hm hr hC h60
    by_cases he : e = 0
    · subst he
      obtain ⟨rfl, hn1, hn2, rfl, hg1, hg2, hg3⟩ := hgood rfl hl
      have Hfin := Aside0.mk (hfin rfl hl)
      have Hg1 := Aside0.mk hg1
      have Hg3 := Aside0.mk hg3
      clear hbad hgood hfin hg1 hg3
      go_enter Try.func17, Try.ntmps17
      go_wp2_with (fail)
      refine (known_calls w).mono ?_
      rintro e w1 ⟨rfl, hB⟩
      have HB := Aside0.mk hB
      clear hB
      go_wp2_with (fail)
      refine (praxinoscopekit_Pick.calls a1 (8 * (l0.length : Int) + 1) p _ Hp.out).mono ?_
      rintro e w2 ⟨rfl, hd⟩
      have n_ := Aside0.mk (below_step HB.out (drawn_below hd)); clear HB; have HB := n_; clear n_ hd
      go_wp2_with (fail)
      refine (bits_Start.calls A0 c0 l0 (p : Int) x n 0 _ (Kd.C_below HC.out HB.out) hc0 Hs.out).mono ?_
      rintro e w2 ⟨rfl, hd⟩
      have n_ := Aside0.mk (below_step HB.out hd); clear HB; have HB := n_; clear n_ hd
      go_wp2_with (fail)
      refine (bits_Find.calls A0 c0 l0 (p : Int) _ 0 _ (Kd.C_below HC.out HB.out) hc0 Hf.out).mono ?_
      rintro e w2 ⟨rfl, hd⟩
      have n_ := Aside0.mk (below_step HB.out hd); clear HB; have HB := n_; clear n_ hd
      have hd20 : decide (n < 20) = false := decide_eq_false (by omega)
      have hv1 : IntKind.i64.wrap ((p : Int) + n) = (p : Int) + n := by rw [IntKind.wrap_i64]; omega
      have hv2 : IntKind.i64.wrap ((p : Int) + n - 20) = (p : Int) + n - 20 := by rw [IntKind.wrap_i64]; omega
      have hv3 : IntKind.i64.wrap ((p : Int) + n - 4) = (p : Int) + n - 4 := by rw [IntKind.wrap_i64]; omega
      have hv4 : IntKind.i64.wrap (n - 5) = n - 5 := by rw [IntKind.wrap_i64]; omega
      have hv5 : IntKind.i64.wrap (n + m) = n + m := by rw [IntKind.wrap_i64]; omega
      go_wp2_with (fail)
      refine (praxinoscopelaw01_reads.calls 60 A0 c0 l0 (p : Int) (n - 5) 0 0 b1 _ (Kd.C_below HC.out HB.out) hc0 Hg1.out).mono ?_
      rintro e w2 ⟨rfl, hd⟩
      have n_ := Aside0.mk (below_step HB.out (drawn_below hd)); clear HB; have HB := n_; clear n_ hd
      clear Hg1
      have hg2' : b1 = true ∨ b1 = false ∧ decide (n ≤ 37) = false := hg2.imp id (fun h => ⟨h.1, decide_eq_false (by omega)⟩)
      clear hg2
      rcases hg2' with rfl | ⟨rfl, hd37⟩
      all_goals
        go_wp2_with (fail)
        refine (praxinoscopelaw01_reads.calls 60 A0 c0 l0 ((p : Int) + n - 4) 4 x 0 true _ (Kd.C_below HC.out HB.out) hc0 Hg3.out).mono ?_
        rintro e w2 ⟨rfl, hd⟩
        have n_ := Aside0.mk (below_step HB.out (drawn_below hd)); clear HB; have HB := n_; clear n_ hd
        go_wp2_with (fail)
        refine (pn_new (by repeat (first | exact HB.out | apply below_alloc | apply pw_below_drewN | apply below_drew1))).mono ?_
        rintro e w3 ⟨rfl, hp, _⟩
        have HP := Aside0.mk hp
        clear hp HB
        go_wp2_with (fail)
        refine (praxinoscopekit_Pick.calls a2 41 m _ Hm.out).mono ?_
        rintro e w4 ⟨rfl, hd⟩
        have m_ := Aside0.mk (Pn.next HP.out (drawn_below hd)); clear HP; have HP := m_; clear m_ hd
        clear Hg3 Hm Hs Hf Hp hw2 hv1 hv2 hv3 hv4
        go_wp2_with (fail)
        go_loopw [14] (fun v14 wr => ∃ i : Nat, v14 = .int .i64 (i : Int) ∧ i ≤ m ∧ Aside0 (Pn w w2.heap.size (List.replicate i 0) wr)) (fun v14 _ => m - (intOf v14).toNat)
        case atStart => exact ⟨0, rfl, by omega, HP⟩
        case round =>
          obtain ⟨i, rfl, hi, HR⟩ := hrel
          by_cases him : (i : Int) < (m : Int)
          · have hd : decide ((i : Int) < (m : Int)) = true := decide_eq_true him
            have hwi : IntKind.i64.wrap ((i : Int) + 1) = ((i + 1 : Nat) : Int) := by rw [IntKind.wrap_i64]; omega
            go_wp2_with (fail)
            refine (pn_put 0 1 HR.out (by decide) (by decide) (by decide) (by decide) (by simp; omega)).mono ?_
            rintro e w5 ⟨rfl, hp, _⟩
            have HR2 := Aside0.mk hp
            clear hp HR
            go_wp2
            go_roundw
            case rel => exact ⟨i + 1, rfl, by omega, ⟨by rw [List.replicate_succ']; exact HR2.out⟩⟩
            case measure => simp [intOf]; omega
          · have hd : decide ((i : Int) < (m : Int)) = false := decide_eq_false him
            obtain rfl : i = m := by omega
            go_wp2_with (fail)
            go_loopw [15] (fun v15 wr => ∃ j : Nat, v15 = .int .i64 (j : Int) ∧ p ≤ j ∧ j ≤ 8 * l0.length ∧ Aside0 (Pn w w2.heap.size (List.replicate i 0 ++ bl l0 p (j - p)) wr)) (fun v15 _ => 8 * l0.length - (intOf v15).toNat)
            case atStart => exact ⟨p, rfl, by omega, hps, ⟨by simpa [bl] using HR.out⟩⟩
            case round =>
              clear HR
              obtain ⟨j, rfl, hj1, hj2, HR⟩ := hrel
              by_cases hjm : (j : Int) < 8 * (l0.length : Int)
              · have hd : decide ((j : Int) < 8 * (l0.length : Int)) = true := decide_eq_true hjm
                have hwi : IntKind.i64.wrap ((j : Int) + 1) = ((j + 1 : Nat) : Int) := by rw [IntKind.wrap_i64]; omega
                have hb01 := bitB_01 l0 j
                go_wp2_with (fail)
                refine (bits_Read.calls 60 A0 c0 l0 (j : Int) 1 (bitB l0 j) 0 _ (Kd.C_below HC.out HR.out.below) hc0 (Hr.out j (by omega))).mono ?_
                rintro e w5 ⟨rfl, hd5⟩
                have m_ := Aside0.mk (Pn.next HR.out (drawn_below hd5)); clear HR; have HR := m_; clear m_ hd5
                go_wp2_with (fail)
                refine (pn_put (bitB l0 j) 1 HR.out (by decide) (by omega) (by omega) (by omega) (by simp [bl_length]; omega)).mono ?_
                rintro e w6 ⟨rfl, hp, _⟩
                rw [pd_bit _ hb01, List.append_assoc] at hp
                have HR2 := Aside0.mk hp
                clear hp HR hb01
                go_wp2
                go_roundw
                case rel => exact ⟨j + 1, rfl, by omega, by omega, ⟨by rw [show j + 1 - p = (j - p) + 1 from by omega, bl, show p + (j - p) = j from by omega]; exact HR2.out⟩⟩
                case measure => simp [intOf]; omega
              · have hd : decide ((j : Int) < 8 * (l0.length : Int)) = false := decide_eq_false hjm
                obtain rfl : j = 8 * l0.length := by omega
                go_wp2_with (fail)
                refine (pn_bytes HR.out (by simp [bl_length]; omega)).mono ?_
                rintro e w5 ⟨v1, bs1, rfl, hr1, hpk, _, hp⟩
                have HP5 := Aside0.mk hp
                obtain ⟨A1, c1, rfl⟩ := Kd.R_slice hr1
                have HO1 := Aside0.mk hr1
                have Hpk := Aside0.mk hpk
                clear hr1 hpk hp HR
                go_wp2_with (fail)
                refine (praxinoscopelaw01_starts.calls A1 c1 bs1 0 x (n + i) 0 true _ (Kd.R_reads' HO1.out).2.2 (Kd.R_reads' HO1.out).2.1 (Hfin.out bs1 Hpk.out)).mono ?_
                rintro e w6 ⟨rfl, hd6⟩
                have HP6 := Aside0.mk (Pn.next HP5.out hd6)
                clear hd6 HP5
                go_wp2
                go_ret
                exact ⟨rfl, HP6.out.below⟩
    · have heb : (e != 0) = true := bne_iff_ne.2 he
      obtain ⟨rfl, rfl, he2⟩ := hbad he
      clear hgood hfin
      rcases he2 with rfl | rfl
      all_goals
        go_enter Try.func17, Try.ntmps17
        go_wp2_with (fail)
        refine (known_calls w).mono ?_
        rintro e w1 ⟨rfl, hB⟩
        have HB := Aside0.mk hB
        clear hB
        go_wp2_with (fail)
        refine (praxinoscopekit_Pick.calls a1 (8 * (l0.length : Int) + 1) p _ Hp.out).mono ?_
        rintro e w2 ⟨rfl, hd⟩
        have n_ := Aside0.mk (below_step HB.out (drawn_below hd)); clear HB; have HB := n_; clear n_ hd
        go_wp2_with (fail)
        refine (bits_Start.calls A0 c0 l0 (p : Int) 0 0 _ _ (Kd.C_below HC.out HB.out) hc0 Hs.out).mono ?_
        rintro e w2 ⟨rfl, hd⟩
        have n_ := Aside0.mk (below_step HB.out hd); clear HB; have HB := n_; clear n_ hd
        go_wp2_with (fail)
        refine (bits_Find.calls A0 c0 l0 (p : Int) _ _ _ (Kd.C_below HC.out HB.out) hc0 Hf.out).mono ?_
        rintro e w2 ⟨rfl, hd⟩
        have n_ := Aside0.mk (below_step HB.out hd); clear HB; have HB := n_; clear n_ hd
        go_wp2
        go_ret
        exact ⟨rfl, HB.out⟩
end Go.Proofs.Ytjbpcffmeaadeaa.Pp
