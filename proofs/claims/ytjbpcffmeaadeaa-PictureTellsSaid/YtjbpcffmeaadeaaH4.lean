import Derived.Test.YtjbpcffmeaadeaaHL
import Derived.Test.YtjbpcffmeaadeaaTopP1
/- The walk of PictureReads, by hand. -/
namespace Go.Proofs.Ytjbpcffmeaadeaa.Pr
open Go.RowKit Go.Proofs.YtjbpcffmeaadeaaW.PrintWords Go.Proofs.YtjbpcffmeaadeaaW.PrintLast Go.Proofs.YtjbpcffmeaadeaaW.PrintMore

/-- What is lent reads as it was. -/
theorem lent_C {A : Option Addr} {cap base : Nat} {l0 : List Int} {w : World} (hR : Kd.R (Kd.int .u8) 5 w base (fun _ => True) (.slice A (l0.length + 4) cap) (l0 ++ [201, 202, 203, 204])) :
    Kd.C (Kd.int .u8) w A l0.length l0 ∧ l0.length ≤ cap := by
  obtain ⟨hn, hcap, hCA⟩ := Kd.R_reads' hR
  have hRA := Kd.reads_of_C (enc := Value.int .u8) (d := (0 : Int)) (h1 := fun _ => rfl) hCA
  rw [← hn] at hRA
  have := hRA.take_ l0.length (by omega)
  rw [List.take_left' rfl] at this
  exact ⟨Kd.C_of_reads (h1 := fun _ => rfl) this, by omega⟩

theorem over_loop (m : Nat) : ∀ (k : Nat) (x : List Int) (i : Nat), x.length ≤ 1000000 → i + m = x.length → m < k → ∃ r, praxinoscopekit_OverBytes.l0 k x (i : Int) = some r := by
  induction m with
  | zero =>
    intro k x i _ hi hk
    obtain ⟨k, rfl⟩ : ∃ q, k = q + 1 := ⟨k - 1, by omega⟩
    simp only [praxinoscopekit_OverBytes.l0]
    rw [if_neg (by omega)]
    exact ⟨_, rfl⟩
  | succ m ih =>
    intro k x i hx hi hk
    obtain ⟨k, rfl⟩ : ∃ q, k = q + 1 := ⟨k - 1, by omega⟩
    simp only [praxinoscopekit_OverBytes.l0]
    rw [if_pos (by omega), if_pos (by omega), w64 _ (by omega) (by omega), show ((i : Int) + 1) = ((i + 1 : Nat) : Int) from by omega]
    exact ih k _ (i + 1) (by simpa using hx) (by simp; omega) (by omega)
theorem over_f (l : List Int) (h : l.length ≤ 1000000) (k : Nat) (hk : l.length < k) : ∃ r, praxinoscopekit_OverBytes.f k l = some r :=
  over_loop l.length k l 0 h (by omega) hk

set_option maxHeartbeats 4000000 in
set_option maxRecDepth 100000 in
theorem PictureReads_calls (A0 : Option Addr) (c0 : Nat) (l0 : List Int) (a : Int) (w : World) (k : Nat) (r1 r2 : Int) (r3 : List Int) (r4 r5 : Int) (r6 : List Int) (hC : Kd.C (Kd.int .u8) w A0 l0.length l0) (hc0 : l0.length ≤ c0)
    (haw : praxinoscopelaw17_awake.f k = some true) (hg : l0.length ≤ 100 → picture_Get.f l0 a = some (r1, r2, r3, r4, r5)) (hf : l0.length ≤ 100 → praxinoscoperef17_Get.f k l0 a = some (r1, r2, r3, r4, r5)) (ho : l0.length ≤ 100 → praxinoscopekit_OverBytes.f k r3 = some r6) :
    Calls Try.prog 4 #[.slice A0 l0.length c0, .int .i64 a] w fun e w' => e = .returned (.bool true) ∧ Below w.heap.size w w' := by
  by_cases h100 : (l0.length : Int) > 100
  · have hb : decide ((l0.length : Int) > 100) = true := decide_eq_true h100
    have hb' : decide (100 < (l0.length : Int)) = true := decide_eq_true h100
    go_enter Try.func4, Try.ntmps4
    go_wp2_with (fail)
    refine (praxinoscopelaw17_awake.calls k true w haw).mono ?_
    rintro e w1 ⟨rfl, hB⟩
    have HB := Aside0.mk hB
    clear hB
    go_wp2
    go_ret
    exact ⟨rfl, HB.out⟩
  · have hb : decide ((l0.length : Int) > 100) = false := decide_eq_false h100
    have hb' : decide (100 < (l0.length : Int)) = false := decide_eq_false h100
    replace hg := hg (by omega)
    replace hf := hf (by omega)
    replace ho := ho (by omega)
    have Haw := Aside0.mk haw
    have Hg := Aside0.mk hg
    have Hf := Aside0.mk hf
    have Ho := Aside0.mk ho
    have HC := Aside0.mk hC
    clear haw hg hf ho hC
    go_enter Try.func4, Try.ntmps4
    go_wp2_with (fail)
    refine (lent_calls A0 c0 l0 w HC.out hc0 (by omega)).mono ?_
    rintro e w1 ⟨A1, cap1, rfl, hL1, hB1⟩
    have HL1 := Aside0.mk hL1
    have HB1 := Aside0.mk hB1
    have HM1 := Aside0.mk (Kd.R_mono (ok' := fun k => k < w1.heap.size) (Kd.R_bound hL1) (fun k hk => hk.2.2.1))
    clear hL1 hB1
    go_wp2_with (fail)
    refine (picture_Get.calls A1 cap1 l0 a r1 r2 r3 r4 r5 w1 (lent_C HL1.out).1 (lent_C HL1.out).2 Hg.out).mono ?_
    rintro e w2 ⟨v2, rfl, hv2, hb2⟩
    obtain ⟨A2, c2, rfl⟩ := Kd.R_slice hv2
    have HV2 := Aside0.mk hv2
    have Hb2 := Aside0.mk hb2
    clear hv2 hb2
    go_wp2_with (fail)
    obtain ⟨X, hX⟩ : ∃ X, w2.heap.size = X := ⟨_, rfl⟩
    obtain ⟨W3, hW3⟩ : ∃ W, w2.alloc (.cells #[.int .i64 r1, .int .i64 r2, .slice A2 r3.length c2] 24) = W := ⟨_, rfl⟩
    have hx3 : W3.heap[X]? = some (.cells #[.int .i64 r1, .int .i64 r2, .slice A2 r3.length c2] 24 (0, 0)) := by rw [← hW3, ← hX]; exact blk_new _ _
    have HB3 := Aside0.mk (show Below w.heap.size w W3 by rw [← hW3]; exact below_alloc (below_step HB1.out Hb2.out) _)
    have HM3 := Aside0.mk (show Kd.R (Kd.int .u8) 5 W3 w.heap.size (fun k => k < w1.heap.size) (.slice A1 (l0.length + 4) cap1) (l0 ++ [201, 202, 203, 204]) by rw [← hW3]; exact Kd.R_alloc (Kd.R_below HM1.out Hb2.out) _)
    have HV3 := Aside0.mk (show Kd.R (Kd.int .u8) 5 W3 w.heap.size (fun k => w1.heap.size ≤ k) (.slice A2 r3.length c2) r3 by
      rw [← hW3]; exact Kd.R_alloc (Kd.R_lower (Kd.R_mono (Kd.R_bound HV2.out) (fun k hk => hk.2.1)) (below_size HB1.out)) _)
    rw [hW3]
    simp only [hX]
    have Hx3 := Aside0.mk hx3
    clear hW3 hx3 HV2 Hb2 HM1 HL1
    refine (praxinoscoperef17_Get.calls k A0 c0 l0 a r1 r2 r3 r4 r5 W3 (Kd.C_below HC.out HB3.out) hc0 Hf.out).mono ?_
    rintro e w4 ⟨v3, rfl, hv4, hb4⟩
    obtain ⟨A3, c3, rfl⟩ := Kd.R_slice hv4
    have HV4 := Aside0.mk hv4
    have Hb4 := Aside0.mk hb4
    clear hv4 hb4
    obtain ⟨o5, ho5⟩ : ∃ o, Obj.cells #[.int .i64 r1, .int .i64 r2, .slice A3 r3.length c3] 24 = o := ⟨_, rfl⟩
    have hx5 : (w4.alloc o5).heap[X]? = _ := blk_alloc (blk_below Hx3.out Hb4.out) o5
    have hx50 : (w4.alloc o5).cell? ⟨X, 0, none⟩ = some (.int .i64 r1) := (blk_cell hx5 0).trans rfl
    have hx51 : (w4.alloc o5).cell? ⟨X, 1, none⟩ = some (.int .i64 r2) := (blk_cell hx5 1).trans rfl
    have hx52 : (w4.alloc o5).cell? ⟨X, 2, none⟩ = some (.slice A2 r3.length c2) := (blk_cell hx5 2).trans rfl
    have HB5 := Aside0.mk (show Below w.heap.size w (w4.alloc o5) from below_alloc (below_step HB3.out Hb4.out) o5)
    have HM5 := Aside0.mk (Kd.R_alloc (Kd.R_below HM3.out Hb4.out) o5)
    have HV5 := Aside0.mk (Kd.R_alloc (Kd.R_below HV3.out Hb4.out) o5)
    have HU5 := Aside0.mk (Kd.R_alloc HV4.out o5)
    have Hx5 := Aside0.mk hx5
    clear hx5 HV4 Hx3 HB3 HM3 HV3 Hb4
    subst ho5
    go_wp2_with (fail)
    refine (praxinoscopekit_SameHead.calls r1 r2 A2 c2 r3 r1 r2 A3 c3 r3 true _ (Kd.R_reads' HV5.out).2.2 (Kd.R_reads' HV5.out).2.1 (Kd.R_reads' HU5.out).2.2 (Kd.R_reads' HU5.out).2.1 (by simp [praxinoscopekit_SameHead.f, praxinoscopekit_SameBytes.f])).mono ?_
    rintro e w6 ⟨rfl, hb6⟩
    have HB6 := Aside0.mk (below_step HB5.out hb6)
    have HM6 := Aside0.mk (Kd.R_below HM5.out hb6)
    have HV6 := Aside0.mk (Kd.R_below HV5.out hb6)
    have hx6 := blk_below Hx5.out hb6
    have hx62 : w6.cell? ⟨X, 2, none⟩ = some (.slice A2 r3.length c2) := (blk_cell hx6 2).trans rfl
    clear hb6 HB5 HM5 HV5 HU5 Hx5 hx50 hx51 hx52 hx6
    go_wp2_with (fail)
    refine (praxinoscopekit_OverBytes.calls k (fun k => w1.heap.size ≤ k) (.slice A2 r3.length c2) r3 r6 w w6 HB6.out HV6.out Ho.out).mono ?_
    rintro e w7 ⟨rfl, _, hB7, hk7⟩
    have HB7 := Aside0.mk hB7
    have HM7 := Aside0.mk (Kd.R_mono (ok' := fun _ => True) (Kd.R_kept HM6.out hk7 (fun k hk hk' => by omega)) (fun _ _ => trivial))
    clear hB7 hk7 HB6 HM6 HV6 hx62
    go_wp2_with (fail)
    refine (kept_calls A1 cap1 w.heap.size A0 c0 l0 w7 HM7.out (Kd.C_below HC.out HB7.out) hc0 (by omega)).mono ?_
    rintro e w8 ⟨rfl, hb8⟩
    have HB8 := Aside0.mk (below_step HB7.out hb8)
    clear hb8 HB7 HM7
    go_wp2_with (fail)
    refine (praxinoscopelaw17_awake.calls k true w8 Haw.out).mono ?_
    rintro e w9 ⟨rfl, hb9⟩
    have HB9 := Aside0.mk (below_step HB8.out hb9)
    clear hb9
    go_wp2
    go_ret
    exact ⟨rfl, HB9.out⟩
end Go.Proofs.Ytjbpcffmeaadeaa.Pr
