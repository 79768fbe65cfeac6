import Derived.Test.YtjbpcffmeaadeaaHC
import Derived.Test.YtjbpcffmeaadeaaTopG1
/- The walk of GroupPuts, by hand. -/
namespace Go.Proofs.Ytjbpcffmeaadeaa.Pl
open Go.RowKit Go.Proofs.Ytjbpcffmeaadeaa.Pr Go.Proofs.YtjbpcffmeaadeaaW.PrintWords Go.Proofs.YtjbpcffmeaadeaaW.PrintLast Go.Proofs.YtjbpcffmeaadeaaW.PrintMore

set_option maxHeartbeats 8000000 in
set_option maxRecDepth 100000 in
theorem GroupPuts_calls (p q : Int) (A0 : Option Addr) (c0 : Nat) (l0 : List Int) (w : World) (k : Nat) (x1 x2 x3 : ByteArray) (e1 e2 e3 : Int) (hC : Kd.C (Kd.int .u8) w A0 l0.length l0) (hc0 : l0.length ≤ c0)
    (haw : praxinoscopelaw18_awake.f k = some true) (hp1 : l0.length ≤ 60 → group_Put.f k q l0 = some (x1, e1)) (hq1 : l0.length ≤ 60 → praxinoscoperef18_Put.f k q l0 = some (x1, e1))
    (hp2 : group_Start.f k p = some (x2, e2)) (hq2 : praxinoscoperef18_Start.f k p = some (x2, e2))
    (hp3 : l0.length ≤ 60 → group_Whole.f k p q l0 = some (x3, e3)) (hq3 : l0.length ≤ 60 → praxinoscoperef18_Whole.f k p q l0 = some (x3, e3)) :
    Calls Try.prog 18 #[.int .i64 p, .int .i64 q, .slice A0 l0.length c0] w fun e w' => e = .returned (.bool true) ∧ Below w.heap.size w w' := by
  by_cases h60 : (l0.length : Int) > 60
  · have hb : decide ((l0.length : Int) > 60) = true := decide_eq_true h60
    have hb' : decide (60 < (l0.length : Int)) = true := decide_eq_true h60
    go_enter Try.func18, Try.ntmps18
    go_wp2_with (fail)
    refine (praxinoscopelaw18_awake.calls k true w haw).mono ?_
    rintro e w1 ⟨rfl, hB⟩
    have HB := Aside0.mk hB
    clear hB
    go_wp2
    go_ret
    exact ⟨rfl, HB.out⟩
  · have hb : decide ((l0.length : Int) > 60) = false := decide_eq_false h60
    have hb' : decide (60 < (l0.length : Int)) = false := decide_eq_false h60
    have Haw := Aside0.mk haw
    have Hp1 := Aside0.mk (hp1 (by omega))
    have Hq1 := Aside0.mk (hq1 (by omega))
    have Hp2 := Aside0.mk hp2
    have Hq2 := Aside0.mk hq2
    have Hp3 := Aside0.mk (hp3 (by omega))
    have Hq3 := Aside0.mk (hq3 (by omega))
    have HC := Aside0.mk hC
    clear haw hp1 hq1 hp2 hq2 hp3 hq3 hC
    go_enter Try.func18, Try.ntmps18
    go_wp2_with (fail)
    refine (lent_calls A0 c0 l0 w HC.out hc0 (by omega)).mono ?_
    rintro e w1 ⟨A1, cap1, rfl, hL1, hB1⟩
    have HB1 := Aside0.mk hB1
    have HL1 := Aside0.mk hL1
    clear hL1 hB1
    go_wp2_with (fail)
    refine (group_Put.calls k q A1 cap1 l0 x1 e1 w1 (lent_C HL1.out).1 (lent_C HL1.out).2 Hp1.out).mono ?_
    rintro e w2 ⟨rfl, hb2⟩
    have HB2 := Aside0.mk (below_step HB1.out hb2)
    have HL2 := Aside0.mk (Kd.R_below HL1.out hb2)
    clear hb2 HB1 HL1
    go_wp2_with (fail)
    refine (praxinoscoperef18_Put.calls k q A0 c0 l0 x1 e1 w2 (Kd.C_below HC.out HB2.out) hc0 Hq1.out).mono ?_
    rintro e w3 ⟨rfl, hb3⟩
    have HB3 := Aside0.mk (below_step HB2.out hb3)
    have HL3 := Aside0.mk (Kd.R_below HL2.out hb3)
    clear hb3 HB2 HL2
    go_wp2_with (fail)
    refine (group_Start.calls k p x2 e2 w3 Hp2.out).mono ?_
    rintro e w4 ⟨rfl, hb4⟩
    have HB4 := Aside0.mk (below_step HB3.out hb4)
    have HL4 := Aside0.mk (Kd.R_below HL3.out hb4)
    clear hb4 HB3 HL3
    go_wp2_with (fail)
    refine (praxinoscoperef18_Start.calls k p x2 e2 w4 Hq2.out).mono ?_
    rintro e w5 ⟨rfl, hb5⟩
    have HB5 := Aside0.mk (below_step HB4.out hb5)
    have HL5 := Aside0.mk (Kd.R_below HL4.out hb5)
    clear hb5 HB4 HL4
    go_wp2_with (fail)
    refine (group_Whole.calls k p q A1 cap1 l0 x3 e3 w5 (lent_C HL5.out).1 (lent_C HL5.out).2 Hp3.out).mono ?_
    rintro e w6 ⟨rfl, hb6⟩
    have HB6 := Aside0.mk (below_step HB5.out hb6)
    have HL6 := Aside0.mk (Kd.R_below HL5.out hb6)
    clear hb6 HB5 HL5
    go_wp2_with (fail)
    refine (praxinoscoperef18_Whole.calls k p q A0 c0 l0 x3 e3 w6 (Kd.C_below HC.out HB6.out) hc0 Hq3.out).mono ?_
    rintro e w7 ⟨rfl, hb7⟩
    have HB7 := Aside0.mk (below_step HB6.out hb7)
    have HL7 := Aside0.mk (Kd.R_below HL6.out hb7)
    clear hb7 HB6 HL6
    go_wp2_with (fail)
    refine (kept_calls A1 cap1 w.heap.size A0 c0 l0 w7 HL7.out (Kd.C_below HC.out HB7.out) hc0 (by omega)).mono ?_
    rintro e w8 ⟨rfl, hb8⟩
    have HB8 := Aside0.mk (below_step HB7.out hb8)
    clear hb8 HB7 HL7
    go_wp2_with (fail)
    refine (praxinoscopelaw18_awake.calls k true w8 Haw.out).mono ?_
    rintro e w9 ⟨rfl, hb9⟩
    have HB9 := Aside0.mk (below_step HB8.out hb9)
    clear hb9
    go_wp2
    go_ret
    exact ⟨rfl, HB9.out⟩
end Go.Proofs.Ytjbpcffmeaadeaa.Pl
