import Derived.Test.YtjbpcffmeaadeaaHC
import Derived.Test.YtjbpcffmeaadeaaTopG1
/- The walk of GroupGets, by hand. -/
namespace Go.Proofs.Ytjbpcffmeaadeaa.Pl
open Go.RowKit Go.Proofs.Ytjbpcffmeaadeaa.Pr Go.Proofs.YtjbpcffmeaadeaaW.PrintWords Go.Proofs.YtjbpcffmeaadeaaW.PrintLast Go.Proofs.YtjbpcffmeaadeaaW.PrintMore

set_option maxHeartbeats 8000000 in
set_option maxRecDepth 100000 in
theorem GroupGets_calls (A0 : Option Addr) (c0 : Nat) (l0 : List Int) (a : Int) (w : World) (k : Nat) (q n e q2 p2 n2 e2 : Int) (s s' s2 s2' : List Int) (hC : Kd.C (Kd.int .u8) w A0 l0.length l0) (hc0 : l0.length ≤ c0)
    (haw : praxinoscopelaw18_awake.f k = some true) (hg : l0.length ≤ 100 → group_Get.f k l0 a = some (q, s, n, e)) (hf : l0.length ≤ 100 → praxinoscoperef18_Get.f k l0 a = some (q, s, n, e)) (ho : l0.length ≤ 100 → praxinoscopekit_OverBytes.f k s = some s')
    (hg2 : l0.length ≤ 100 → group_Open.f k l0 a = some (p2, q2, s2, n2, e2)) (hf2 : l0.length ≤ 100 → praxinoscoperef18_Open.f k l0 a = some (p2, q2, s2, n2, e2)) (ho2 : l0.length ≤ 100 → praxinoscopekit_OverBytes.f k s2 = some s2') :
    Calls Try.prog 8 #[.slice A0 l0.length c0, .int .i64 a] w fun e w' => e = .returned (.bool true) ∧ Below w.heap.size w w' := by
  by_cases h100 : (l0.length : Int) > 100
  · have hb : decide ((l0.length : Int) > 100) = true := decide_eq_true h100
    have hb' : decide (100 < (l0.length : Int)) = true := decide_eq_true h100
    go_enter Try.func8, Try.ntmps8
    go_wp2_with (fail)
    refine (praxinoscopelaw18_awake.calls k true w haw).mono ?_
    rintro e w1 ⟨rfl, hB⟩
    have HB := Aside0.mk hB
    clear hB
    go_wp2
    go_ret
    exact ⟨rfl, HB.out⟩
  · have hb : decide ((l0.length : Int) > 100) = false := decide_eq_false h100
    have hb' : decide (100 < (l0.length : Int)) = false := decide_eq_false h100
    have Haw := Aside0.mk haw
    have Hg := Aside0.mk (hg (by omega))
    have Hf := Aside0.mk (hf (by omega))
    have Ho := Aside0.mk (ho (by omega))
    have Hg2 := Aside0.mk (hg2 (by omega))
    have Hf2 := Aside0.mk (hf2 (by omega))
    have Ho2 := Aside0.mk (ho2 (by omega))
    have HC := Aside0.mk hC
    clear haw hg hf ho hC hg2 hf2 ho2
    go_enter Try.func8, Try.ntmps8
    go_wp2_with (fail)
    refine (lent_calls A0 c0 l0 w HC.out hc0 (by omega)).mono ?_
    rintro e w1 ⟨A1, cap1, rfl, hL1, hB1⟩
    have HB1 := Aside0.mk hB1
    have HM1 := Aside0.mk (Kd.R_mono (ok' := fun k => k < w1.heap.size) (Kd.R_bound hL1) (fun k hk => hk.2.2.1))
    have HS1 := Aside0.mk (lent_C hL1)
    clear hL1 hB1
    go_wp2_with (fail)
    refine (group_Get.calls k A1 cap1 l0 a q s n e w1 HS1.out.1 HS1.out.2 Hg.out).mono ?_
    rintro e w2 ⟨v2, rfl, hv2, hb2⟩
    obtain ⟨A2, c2, rfl⟩ := Kd.R_slice hv2
    have HB2 := Aside0.mk (below_step HB1.out hb2)
    have HM2 := Aside0.mk (Kd.R_below HM1.out hb2)
    have HV2 := Aside0.mk (Kd.R_lower (Kd.R_mono (ok' := fun k => w1.heap.size ≤ k) (Kd.R_bound hv2) (fun k hk => hk.2.1)) (below_size HB1.out))
    have hz2 := below_size hb2
    clear hv2 hb2 HM1 HS1
    go_wp2_with (fail)
    refine (praxinoscoperef18_Get.calls k A0 c0 l0 a q s n e w2 (Kd.C_below HC.out HB2.out) hc0 Hf.out).mono ?_
    rintro e w4 ⟨v3, rfl, hv4, hb4⟩
    obtain ⟨A3, c3, rfl⟩ := Kd.R_slice hv4
    have HB4 := Aside0.mk (below_step HB2.out hb4)
    have HM4 := Aside0.mk (Kd.R_below HM2.out hb4)
    have HV4 := Aside0.mk (Kd.R_below HV2.out hb4)
    have HU4 := Aside0.mk hv4
    have hz4 := Nat.le_trans hz2 (below_size hb4)
    clear hv4 hb4 HB2 HM2 HV2 hz2
    go_wp2_with (fail)
    refine (praxinoscopekit_SameBytes.calls A2 c2 s A3 c3 s true _ (Kd.R_reads' HV4.out).2.2 (Kd.R_reads' HV4.out).2.1 (Kd.R_reads' HU4.out).2.2 (Kd.R_reads' HU4.out).2.1 (by simp [praxinoscopekit_SameBytes.f])).mono ?_
    rintro e w6 ⟨rfl, ⟨nd, rfl⟩⟩
    have HB6 := Aside0.mk (pw_below_drewN HB4.out nd)
    have HM6 := Aside0.mk (Kd.R_drewN HM4.out nd)
    have HV6 := Aside0.mk (Kd.R_drewN HV4.out nd)
    clear HB4 HM4 HV4 HU4
    go_wp2_with (fail)
    refine (praxinoscopekit_OverBytes.calls k (fun k => w1.heap.size ≤ k) (.slice A2 s.length c2) s s' w _ HB6.out HV6.out Ho.out).mono ?_
    rintro e w7 ⟨rfl, _, hB7, hk7⟩
    have HB7 := Aside0.mk hB7
    have HM7 := Aside0.mk (Kd.R_kept HM6.out hk7 (fun k hk hk' => by omega))
    have HS7 := Aside0.mk (lent_C (Kd.R_mono (ok' := fun _ => True) HM7.out (fun _ _ => trivial)))
    have hle7 := hk7.1
    have HZ7 := Aside0.mk (show w1.heap.size ≤ w7.heap.size from Nat.le_trans hz4 hle7)
    clear hB7 hk7 HB6 HM6 HV6 hle7
    go_wp2_with (fail)
    refine (group_Open.calls k A1 cap1 l0 a p2 q2 s2 n2 e2 w7 HS7.out.1 HS7.out.2 Hg2.out).mono ?_
    rintro e w8 ⟨v8, rfl, hv8, hb8⟩
    obtain ⟨A8, c8, rfl⟩ := Kd.R_slice hv8
    have HB8 := Aside0.mk (below_step HB7.out hb8)
    have HM8 := Aside0.mk (Kd.R_below HM7.out hb8)
    have HV8 := Aside0.mk (Kd.R_lower (Kd.R_mono (ok' := fun k => w1.heap.size ≤ k) (Kd.R_bound hv8) (fun k hk => Nat.le_trans HZ7.out hk.2.1)) (below_size HB7.out))
    clear hv8 hb8 HM7 HS7 HB7 HZ7
    go_wp2_with (fail)
    refine (praxinoscoperef18_Open.calls k A0 c0 l0 a p2 q2 s2 n2 e2 w8 (Kd.C_below HC.out HB8.out) hc0 Hf2.out).mono ?_
    rintro e w9 ⟨v9, rfl, hv9, hb9⟩
    obtain ⟨A9, c9, rfl⟩ := Kd.R_slice hv9
    have HB9 := Aside0.mk (below_step HB8.out hb9)
    have HM9 := Aside0.mk (Kd.R_below HM8.out hb9)
    have HV9 := Aside0.mk (Kd.R_below HV8.out hb9)
    have HU9 := Aside0.mk hv9
    clear hv9 hb9 HB8 HM8 HV8
    go_wp2_with (fail)
    refine (praxinoscopekit_SameBytes.calls A8 c8 s2 A9 c9 s2 true _ (Kd.R_reads' HV9.out).2.2 (Kd.R_reads' HV9.out).2.1 (Kd.R_reads' HU9.out).2.2 (Kd.R_reads' HU9.out).2.1 (by simp [praxinoscopekit_SameBytes.f])).mono ?_
    rintro e w10 ⟨rfl, ⟨nd2, rfl⟩⟩
    have HB10 := Aside0.mk (pw_below_drewN HB9.out nd2)
    have HM10 := Aside0.mk (Kd.R_drewN HM9.out nd2)
    have HV10 := Aside0.mk (Kd.R_drewN HV9.out nd2)
    clear HB9 HM9 HV9 HU9
    go_wp2_with (fail)
    refine (praxinoscopekit_OverBytes.calls k (fun k => w1.heap.size ≤ k) (.slice A8 s2.length c8) s2 s2' w _ HB10.out HV10.out Ho2.out).mono ?_
    rintro e w11 ⟨rfl, _, hB11, hk11⟩
    have HB11 := Aside0.mk hB11
    have HM11 := Aside0.mk (Kd.R_mono (ok' := fun _ => True) (Kd.R_kept HM10.out hk11 (fun k hk hk' => by omega)) (fun _ _ => trivial))
    clear hB11 hk11 HB10 HM10 HV10
    go_wp2_with (fail)
    refine (kept_calls A1 cap1 w.heap.size A0 c0 l0 w11 HM11.out (Kd.C_below HC.out HB11.out) hc0 (by omega)).mono ?_
    rintro e w12 ⟨rfl, hb12⟩
    have HB12 := Aside0.mk (below_step HB11.out hb12)
    clear hb12 HB11 HM11
    go_wp2_with (fail)
    refine (praxinoscopelaw18_awake.calls k true w12 Haw.out).mono ?_
    rintro e w13 ⟨rfl, hb13⟩
    have HB13 := Aside0.mk (below_step HB12.out hb13)
    clear hb13
    go_wp2
    go_ret
    exact ⟨rfl, HB13.out⟩
end Go.Proofs.Ytjbpcffmeaadeaa.Pl
