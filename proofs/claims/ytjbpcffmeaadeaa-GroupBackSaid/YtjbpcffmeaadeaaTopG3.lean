-- Written by myprint.py (wip/tools of this place's repo), over the kit's print.py. Not trusted: Lean checks it.
import Derived.Test.YtjbpcffmeaadeaaTopG0
import Derived.Test.YtjbpcffmeaadeaaTopG1
import Derived.Test.YtjbpcffmeaadeaaTopG2
namespace Go.Proofs.Ytjbpcffmeaadeaa.Pr
open Go.RowKit Go.Proofs.YtjbpcffmeaadeaaW.PrintWords Go.Proofs.YtjbpcffmeaadeaaW.PrintLast Go.Proofs.YtjbpcffmeaadeaaW.PrintMore
attribute [local go_sem] max2_int min2_int max_two min_two max_three min_three max_four min_four   -- for this text's walks alone
set_option linter.unusedVariables false
set_option linter.unusedSimpArgs false

/-! ### praxinoscopelaw18_GroupBack: function 7 -/
mutual
def praxinoscopelaw18_GroupBack.j0 : Nat → Int → Int → List Int → Int → List Int → Bool → Bool → Option (Bool)
  | 0, _, _, _, _, _, _, _ => none
  | k + 1, x0, x1, x2, x3, x4, x11, x32 => if x32 = true then (some x11) else ((group_Put.f k x1 x2).bind fun bt238 => ((group_Whole.f k x0 x1 x2).bind fun bt240 => (if bt238.2 = 0 then (if bt240.2 = 0 then ((praxinoscopelaw18_bits.f k bt238.1).bind fun t242 => (if t242 = true then ((praxinoscopelaw18_bits.f k bt240.1).bind fun t243 => (if t243 = true then (if (bt238.1.size : Int) = (wrap64 (6 + (wrap64 (9 * (x2.length : Int))))) then (praxinoscopelaw18_GroupBack.j1 k x0 x1 x2 x3 x4 x11 bt238.1 bt240.1 ((bt240.1.size : Int) != (wrap64 (20 + (bt238.1.size : Int))))) else (praxinoscopelaw18_GroupBack.j1 k x0 x1 x2 x3 x4 x11 bt238.1 bt240.1 true)) else (praxinoscopelaw18_GroupBack.j1 k x0 x1 x2 x3 x4 x11 bt238.1 bt240.1 true))) else (praxinoscopelaw18_GroupBack.j1 k x0 x1 x2 x3 x4 x11 bt238.1 bt240.1 true))) else (praxinoscopelaw18_GroupBack.j1 k x0 x1 x2 x3 x4 x11 bt238.1 bt240.1 true)) else (praxinoscopelaw18_GroupBack.j1 k x0 x1 x2 x3 x4 x11 bt238.1 bt240.1 true))))
def praxinoscopelaw18_GroupBack.j1 : Nat → Int → Int → List Int → Int → List Int → Bool → ByteArray → ByteArray → Bool → Option (Bool)
  | 0, _, _, _, _, _, _, _, _, _ => none
  | k + 1, x0, x1, x2, x3, x4, x11, x12, x14, x79 => if x79 = true then (some false) else (if x11 = true then ((praxinoscopelaw18_bytes.f k 0 x12 x4).bind fun t244 => ((praxinoscopelaw18_gets.f k t244 x1 x2 (x12.size : Int) 0).bind fun t247 => (if t247 = true then ((praxinoscopelaw18_bytes.f k x3 x14 x4).bind fun t248 => ((praxinoscopelaw18_opens.f k t248 x0 x1 x2 (wrap64 (x3 + (x14.size : Int))) 0).bind fun t251 => (some t251))) else (some false)))) else (some false))
end
def praxinoscopelaw18_GroupBack.f (k : Nat) (a0 : Int) (a1 : Int) (l2 : List Int) (a3 : Int) (l4 : List Int) : Option (Bool) := (praxinoscopelaw18_GroupKnown.f k).bind fun t234 => ((praxinoscopekit_Pick.f a0 15).bind fun t235 => ((praxinoscopekit_Pick.f a1 31).bind fun t236 => ((praxinoscopekit_Pick.f a3 41).bind fun t237 => (if (l2.length : Int) > 32 then (praxinoscopelaw18_GroupBack.j0 k (wrap64 (1 + t235)) (wrap64 (1 + t236)) l2 t237 l4 t234 true) else (praxinoscopelaw18_GroupBack.j0 k (wrap64 (1 + t235)) (wrap64 (1 + t236)) l2 t237 l4 t234 (decide ((l4.length : Int) > 60)))))))
theorem praxinoscopelaw18_GroupBack.mono_l : ∀ k, (∀ y0 y1 y2 y3 y4 y5 y6, LeO (praxinoscopelaw18_GroupBack.j0 k y0 y1 y2 y3 y4 y5 y6) (praxinoscopelaw18_GroupBack.j0 (k + 1) y0 y1 y2 y3 y4 y5 y6)) ∧ (∀ y0 y1 y2 y3 y4 y5 y6 y7 y8, LeO (praxinoscopelaw18_GroupBack.j1 k y0 y1 y2 y3 y4 y5 y6 y7 y8) (praxinoscopelaw18_GroupBack.j1 (k + 1) y0 y1 y2 y3 y4 y5 y6 y7 y8))
  | 0 => ⟨fun _ _ _ _ _ _ _ r h => by simp [praxinoscopelaw18_GroupBack.j0] at h, fun _ _ _ _ _ _ _ _ _ r h => by simp [praxinoscopelaw18_GroupBack.j1] at h⟩
  | k + 1 => by
    obtain ⟨ih0, ih1⟩ := praxinoscopelaw18_GroupBack.mono_l k
    refine ⟨?_, ?_⟩
    · intro y0 y1 y2 y3 y4 y5 y6
      unfold praxinoscopelaw18_GroupBack.j0
      repeat' first
      | (with_reducible exact ih0 _ _ _ _ _ _ _)
      | (with_reducible exact ih1 _ _ _ _ _ _ _ _ _)
      | (with_reducible exact group_Put.mono _ _ _)
      | (with_reducible exact group_Whole.mono _ _ _ _)
      | (with_reducible exact praxinoscopelaw18_GroupKnown.mono _)
      | (with_reducible exact praxinoscopelaw18_bits.mono _ _)
      | (with_reducible exact praxinoscopelaw18_bytes.mono _ _ _ _)
      | (with_reducible exact praxinoscopelaw18_gets.mono _ _ _ _ _ _)
      | (with_reducible exact praxinoscopelaw18_opens.mono _ _ _ _ _ _ _)
      | (with_reducible exact LeO.refl _)
      | (with_reducible exact LeO.none _)
      | (with_reducible refine LeO.ite ?_ ?_)
      | (with_reducible refine LeO.bind ?_ (fun _ => ?_))
      | exact ih0 _ _ _ _ _ _ _
      | exact ih1 _ _ _ _ _ _ _ _ _
      | exact group_Put.mono _ _ _
      | exact group_Whole.mono _ _ _ _
      | exact praxinoscopelaw18_GroupKnown.mono _
      | exact praxinoscopelaw18_bits.mono _ _
      | exact praxinoscopelaw18_bytes.mono _ _ _ _
      | exact praxinoscopelaw18_gets.mono _ _ _ _ _ _
      | exact praxinoscopelaw18_opens.mono _ _ _ _ _ _ _
      | exact LeO.none _
      | refine LeO.ite ?_ ?_
      | refine LeO.bind ?_ (fun _ => ?_)
    · intro y0 y1 y2 y3 y4 y5 y6 y7 y8
      unfold praxinoscopelaw18_GroupBack.j1
      repeat' first
      | (with_reducible exact ih0 _ _ _ _ _ _ _)
      | (with_reducible exact ih1 _ _ _ _ _ _ _ _ _)
      | (with_reducible exact group_Put.mono _ _ _)
      | (with_reducible exact group_Whole.mono _ _ _ _)
      | (with_reducible exact praxinoscopelaw18_GroupKnown.mono _)
      | (with_reducible exact praxinoscopelaw18_bits.mono _ _)
      | (with_reducible exact praxinoscopelaw18_bytes.mono _ _ _ _)
      | (with_reducible exact praxinoscopelaw18_gets.mono _ _ _ _ _ _)
      | (with_reducible exact praxinoscopelaw18_opens.mono _ _ _ _ _ _ _)
      | (with_reducible exact LeO.refl _)
      | (with_reducible exact LeO.none _)
      | (with_reducible refine LeO.ite ?_ ?_)
      | (with_reducible refine LeO.bind ?_ (fun _ => ?_))
      | exact ih0 _ _ _ _ _ _ _
      | exact ih1 _ _ _ _ _ _ _ _ _
      | exact group_Put.mono _ _ _
      | exact group_Whole.mono _ _ _ _
      | exact praxinoscopelaw18_GroupKnown.mono _
      | exact praxinoscopelaw18_bits.mono _ _
      | exact praxinoscopelaw18_bytes.mono _ _ _ _
      | exact praxinoscopelaw18_gets.mono _ _ _ _ _ _
      | exact praxinoscopelaw18_opens.mono _ _ _ _ _ _ _
      | exact LeO.none _
      | refine LeO.ite ?_ ?_
      | refine LeO.bind ?_ (fun _ => ?_)
theorem praxinoscopelaw18_GroupBack.mono : ∀ a0 a1 a2 a3 a4 k, LeO (praxinoscopelaw18_GroupBack.f k a0 a1 a2 a3 a4) (praxinoscopelaw18_GroupBack.f (k + 1) a0 a1 a2 a3 a4) := by
  intro a0 a1 a2 a3 a4 k
  obtain ⟨ih0, ih1⟩ := praxinoscopelaw18_GroupBack.mono_l k
  unfold praxinoscopelaw18_GroupBack.f
  repeat' first
      | (with_reducible exact ih0 _ _ _ _ _ _ _)
      | (with_reducible exact ih1 _ _ _ _ _ _ _ _ _)
      | (with_reducible exact group_Put.mono _ _ _)
      | (with_reducible exact group_Whole.mono _ _ _ _)
      | (with_reducible exact praxinoscopelaw18_GroupKnown.mono _)
      | (with_reducible exact praxinoscopelaw18_bits.mono _ _)
      | (with_reducible exact praxinoscopelaw18_bytes.mono _ _ _ _)
      | (with_reducible exact praxinoscopelaw18_gets.mono _ _ _ _ _ _)
      | (with_reducible exact praxinoscopelaw18_opens.mono _ _ _ _ _ _ _)
      | (with_reducible exact LeO.refl _)
      | (with_reducible exact LeO.none _)
      | (with_reducible refine LeO.ite ?_ ?_)
      | (with_reducible refine LeO.bind ?_ (fun _ => ?_))
      | exact ih0 _ _ _ _ _ _ _
      | exact ih1 _ _ _ _ _ _ _ _ _
      | exact group_Put.mono _ _ _
      | exact group_Whole.mono _ _ _ _
      | exact praxinoscopelaw18_GroupKnown.mono _
      | exact praxinoscopelaw18_bits.mono _ _
      | exact praxinoscopelaw18_bytes.mono _ _ _ _
      | exact praxinoscopelaw18_gets.mono _ _ _ _ _ _
      | exact praxinoscopelaw18_opens.mono _ _ _ _ _ _ _
      | exact LeO.none _
      | refine LeO.ite ?_ ?_
      | refine LeO.bind ?_ (fun _ => ?_)
set_option maxHeartbeats 8000000 in
set_option maxRecDepth 100000 in
theorem praxinoscopelaw18_GroupBack.calls (k : Nat) (a0 : Int) (a1 : Int) (A2 : Option Addr) (c2 : Nat) (l2 : List Int) (a3 : Int) (A4 : Option Addr) (c4 : Nat) (l4 : List Int) (r : Bool) (w : World) (hr2 : Kd.C (Kd.int .u8) w A2 l2.length l2) (hc2 : l2.length ≤ c2) (hr4 : Kd.C (Kd.int .i64) w A4 l4.length l4) (hc4 : l4.length ≤ c4) (h : praxinoscopelaw18_GroupBack.f k a0 a1 l2 a3 l4 = some r) :
    Calls Try.prog 7 #[.int .i64 a0, .int .i64 a1, .slice A2 l2.length c2, .int .i64 a3, .slice A4 l4.length c4] w fun e w' => e = .returned (.bool r) ∧ Below w.heap.size w w' := by
  have HR2 := Aside0.mk hr2
  have HC2 := Aside0.mk hc2
  clear hr2 hc2
  have HR4 := Aside0.mk hr4
  have HC4 := Aside0.mk hc4
  clear hr4 hc4
  have HB := Aside0.mk (Below.refl w.heap.size w)
  have H : ((praxinoscopelaw18_GroupKnown.f k).bind fun t234 => ((praxinoscopekit_Pick.f a0 15).bind fun t235 => ((praxinoscopekit_Pick.f a1 31).bind fun t236 => ((praxinoscopekit_Pick.f a3 41).bind fun t237 => (if (l2.length : Int) > 32 then (praxinoscopelaw18_GroupBack.j0 k (wrap64 (1 + t235)) (wrap64 (1 + t236)) l2 t237 l4 t234 true) else (praxinoscopelaw18_GroupBack.j0 k (wrap64 (1 + t235)) (wrap64 (1 + t236)) l2 t237 l4 t234 (decide ((l4.length : Int) > 60)))))))) = some r := h
  clear h
  replace H := Option.bind_eq_some_iff.mp H
  obtain ⟨t234, A60, H⟩ := H
  replace H : ((praxinoscopekit_Pick.f a0 15).bind fun t235 => ((praxinoscopekit_Pick.f a1 31).bind fun t236 => ((praxinoscopekit_Pick.f a3 41).bind fun t237 => (if (l2.length : Int) > 32 then (praxinoscopelaw18_GroupBack.j0 k (wrap64 (1 + t235)) (wrap64 (1 + t236)) l2 t237 l4 t234 true) else (praxinoscopelaw18_GroupBack.j0 k (wrap64 (1 + t235)) (wrap64 (1 + t236)) l2 t237 l4 t234 (decide ((l4.length : Int) > 60))))))) = some r := H
  have A6 := Aside0.mk A60
  clear A60
  replace H := Option.bind_eq_some_iff.mp H
  obtain ⟨t235, A70, H⟩ := H
  replace H : ((praxinoscopekit_Pick.f a1 31).bind fun t236 => ((praxinoscopekit_Pick.f a3 41).bind fun t237 => (if (l2.length : Int) > 32 then (praxinoscopelaw18_GroupBack.j0 k (wrap64 (1 + t235)) (wrap64 (1 + t236)) l2 t237 l4 t234 true) else (praxinoscopelaw18_GroupBack.j0 k (wrap64 (1 + t235)) (wrap64 (1 + t236)) l2 t237 l4 t234 (decide ((l4.length : Int) > 60)))))) = some r := H
  have A7 := Aside0.mk A70
  clear A70
  replace H := Option.bind_eq_some_iff.mp H
  obtain ⟨t236, A80, H⟩ := H
  replace H : ((praxinoscopekit_Pick.f a3 41).bind fun t237 => (if (l2.length : Int) > 32 then (praxinoscopelaw18_GroupBack.j0 k (wrap64 (1 + t235)) (wrap64 (1 + t236)) l2 t237 l4 t234 true) else (praxinoscopelaw18_GroupBack.j0 k (wrap64 (1 + t235)) (wrap64 (1 + t236)) l2 t237 l4 t234 (decide ((l4.length : Int) > 60))))) = some r := H
  have A8 := Aside0.mk A80
  clear A80
  replace H := Option.bind_eq_some_iff.mp H
  obtain ⟨t237, A90, H⟩ := H
  replace H : (if (l2.length : Int) > 32 then (praxinoscopelaw18_GroupBack.j0 k (wrap64 (1 + t235)) (wrap64 (1 + t236)) l2 t237 l4 t234 true) else (praxinoscopelaw18_GroupBack.j0 k (wrap64 (1 + t235)) (wrap64 (1 + t236)) l2 t237 l4 t234 (decide ((l4.length : Int) > 60)))) = some r := H
  have A9 := Aside0.mk A90
  clear A90
  have HC10 := Aside0.mk H
  clear H
  go_enter Try.func7, Try.ntmps7
  go_upto_region 3 with (first | ((with_reducible refine gate_callee (f := 19) rfl ?_); refine goesL_ (some 16) rfl rfl Try.func19 (by kernel_rfl) rfl #[] rfl (by (try simp only [List.map_toArray, List.map_cons, List.map_nil]); first | done | rfl | (simp only [List.length_drop, List.length_take]; rfl)) ?_; (with_reducible refine (praxinoscopelaw18_GroupKnown.calls k  t234 _ A6.out).mono ?_); rintro e w11 ⟨rfl, hb⟩; refine ⟨_, rfl, ?_⟩; have n0_ := Aside0.mk (below_step (by repeat (first | (with_reducible first | exact HB.out | apply below_alloc | apply pw_below_drewN | apply below_drew1) | exact HB.out)) hb); clear HB; have HB := n0_; clear n0_; (try clear hb); (try clear hb2); (try clear hk); (try clear hi)) | ((with_reducible refine gate_callee (f := 35) rfl ?_); refine goesL_ (some 18) rfl rfl Try.func35 (by kernel_rfl) rfl #[.int .i64 a0, .int .i64 15] rfl (by (try simp only [List.map_toArray, List.map_cons, List.map_nil]); first | done | rfl | (simp only [List.length_drop, List.length_take]; rfl)) ?_; (with_reducible refine (praxinoscopekit_Pick.calls a0 15 t235 _ A7.out).mono ?_); rintro e w' ⟨rfl, ⟨nd, rfl⟩⟩; refine ⟨_, rfl, ?_⟩) | ((with_reducible refine gate_callee (f := 35) rfl ?_); refine goesL_ (some 21) rfl rfl Try.func35 (by kernel_rfl) rfl #[.int .i64 a1, .int .i64 31] rfl (by (try simp only [List.map_toArray, List.map_cons, List.map_nil]); first | done | rfl | (simp only [List.length_drop, List.length_take]; rfl)) ?_; (with_reducible refine (praxinoscopekit_Pick.calls a1 31 t236 _ A8.out).mono ?_); rintro e w' ⟨rfl, ⟨nd, rfl⟩⟩; refine ⟨_, rfl, ?_⟩) | ((with_reducible refine gate_callee (f := 35) rfl ?_); refine goesL_ (some 24) rfl rfl Try.func35 (by kernel_rfl) rfl #[.int .i64 a3, .int .i64 41] rfl (by (try simp only [List.map_toArray, List.map_cons, List.map_nil]); first | done | rfl | (simp only [List.length_drop, List.length_take]; rfl)) ?_; (with_reducible refine (praxinoscopekit_Pick.calls a3 41 t237 _ A9.out).mono ?_); rintro e w' ⟨rfl, ⟨nd, rfl⟩⟩; refine ⟨_, rfl, ?_⟩))
  (try simp only [Act.put, List.setIfInBounds_toArray, List.set_cons_zero, List.set_cons_succ])
  go_cut [32] (fun v32 wc => ∃ (kq : Nat) (x32_9 : Bool), v32 = .bool x32_9 ∧ Aside0 (praxinoscopelaw18_GroupBack.j0 kq (wrap64 (1 + t235)) (wrap64 (1 + t236)) l2 t237 l4 t234 x32_9 = some r) ∧ Aside0 (kq ≤ k) ∧ Aside0 (Below w.heap.size w wc))
  case first =>
    have H := HC10.out
    clear HC10
    by_cases c12 : (l2.length : Int) > 32
    · rw [if_pos c12] at H
      have c12b0 : decide (32 < (l2.length : Int)) = true := decide_eq_true c12
      have c12b1 : decide (32 < l2.length) = true := decide_eq_true (by omega)
      clear c12
      (first | rw [c12b0] | (simp only [i64_w, i32_w]; rw [c12b0]) | skip)
      have H' := Aside0.mk H
      clear H
      go_wp2
      go_meet
      case rel => exact ⟨_, (true), (by first | rfl | (simp; done) | (simp [*]; done)), H', ⟨by first | omega | exact Nat.le_refl _⟩, ⟨by repeat (first | (with_reducible first | exact HB.out | apply below_alloc | apply pw_below_drewN | apply below_drew1) | exact HB.out)⟩⟩
    · rw [if_neg c12] at H
      have c12b0 : decide (32 < (l2.length : Int)) = false := decide_eq_false c12
      have c12b1 : decide (32 < l2.length) = false := decide_eq_false (by omega)
      clear c12
      (first | rw [c12b0] | (simp only [i64_w, i32_w]; rw [c12b0]) | skip)
      have H' := Aside0.mk H
      clear H
      go_wp2
      go_meet
      case rel => exact ⟨_, (decide ((l4.length : Int) > 60)), (by first | rfl | (simp; done) | (simp [*]; done)), H', ⟨by first | omega | exact Nat.le_refl _⟩, ⟨by repeat (first | (with_reducible first | exact HB.out | apply below_alloc | apply pw_below_drewN | apply below_drew1) | exact HB.out)⟩⟩
  case rest =>
    clear HC10
    try clear c1
    try clear c2
    try clear p2
    try clear c3
    try clear c4
    try clear p6
    try clear c7
    try clear c12
    try clear c12b0
    try clear c12b1
    obtain ⟨kq, x32_9, rfl, HA, HJ9, HB⟩ := hcut
    cases kq with
    | zero => exact absurd HA.out (by simp [praxinoscopelaw18_GroupBack.j0])
    | succ kj9 =>
      have H := HA.out
      clear HA
      simp only [praxinoscopelaw18_GroupBack.j0] at H
      by_cases c13 : x32_9 = true
      · subst c13
        have H1 : (some t234) = some r := by rw [if_pos rfl] at H; exact H
        clear H
        have H := H1
        clear H1
        obtain rfl := Option.some.inj H
        go_wp2
        go_ret
        exact ⟨by first | rfl | (simp [errW_none, errW_some] <;> rfl) | (simp [*, errW_none, errW_some] <;> rfl), by repeat (first | (with_reducible first | exact HB.out | apply below_alloc | apply pw_below_drewN | apply below_drew1) | exact HB.out)⟩
      · replace c13 := Bool.eq_false_iff.mpr c13
        subst c13
        have H1 : ((group_Put.f kj9 (wrap64 (1 + t236)) l2).bind fun bt238 => ((group_Whole.f kj9 (wrap64 (1 + t235)) (wrap64 (1 + t236)) l2).bind fun bt240 => (if bt238.2 = 0 then (if bt240.2 = 0 then ((praxinoscopelaw18_bits.f kj9 bt238.1).bind fun t242 => (if t242 = true then ((praxinoscopelaw18_bits.f kj9 bt240.1).bind fun t243 => (if t243 = true then (if (bt238.1.size : Int) = (wrap64 (6 + (wrap64 (9 * (l2.length : Int))))) then (praxinoscopelaw18_GroupBack.j1 kj9 (wrap64 (1 + t235)) (wrap64 (1 + t236)) l2 t237 l4 t234 bt238.1 bt240.1 ((bt240.1.size : Int) != (wrap64 (20 + (bt238.1.size : Int))))) else (praxinoscopelaw18_GroupBack.j1 kj9 (wrap64 (1 + t235)) (wrap64 (1 + t236)) l2 t237 l4 t234 bt238.1 bt240.1 true)) else (praxinoscopelaw18_GroupBack.j1 kj9 (wrap64 (1 + t235)) (wrap64 (1 + t236)) l2 t237 l4 t234 bt238.1 bt240.1 true))) else (praxinoscopelaw18_GroupBack.j1 kj9 (wrap64 (1 + t235)) (wrap64 (1 + t236)) l2 t237 l4 t234 bt238.1 bt240.1 true))) else (praxinoscopelaw18_GroupBack.j1 kj9 (wrap64 (1 + t235)) (wrap64 (1 + t236)) l2 t237 l4 t234 bt238.1 bt240.1 true)) else (praxinoscopelaw18_GroupBack.j1 kj9 (wrap64 (1 + t235)) (wrap64 (1 + t236)) l2 t237 l4 t234 bt238.1 bt240.1 true)))) = some r := by rw [if_neg (show ¬ (false = true) by decide)] at H; exact H
        clear H
        have H := H1
        clear H1
        replace H := Option.bind_eq_some_iff.mp H
        obtain ⟨⟨t238, t239⟩, A140, H⟩ := H
        replace H : ((group_Whole.f kj9 (wrap64 (1 + t235)) (wrap64 (1 + t236)) l2).bind fun bt240 => (if t239 = 0 then (if bt240.2 = 0 then ((praxinoscopelaw18_bits.f kj9 t238).bind fun t242 => (if t242 = true then ((praxinoscopelaw18_bits.f kj9 bt240.1).bind fun t243 => (if t243 = true then (if (t238.size : Int) = (wrap64 (6 + (wrap64 (9 * (l2.length : Int))))) then (praxinoscopelaw18_GroupBack.j1 kj9 (wrap64 (1 + t235)) (wrap64 (1 + t236)) l2 t237 l4 t234 t238 bt240.1 ((bt240.1.size : Int) != (wrap64 (20 + (t238.size : Int))))) else (praxinoscopelaw18_GroupBack.j1 kj9 (wrap64 (1 + t235)) (wrap64 (1 + t236)) l2 t237 l4 t234 t238 bt240.1 true)) else (praxinoscopelaw18_GroupBack.j1 kj9 (wrap64 (1 + t235)) (wrap64 (1 + t236)) l2 t237 l4 t234 t238 bt240.1 true))) else (praxinoscopelaw18_GroupBack.j1 kj9 (wrap64 (1 + t235)) (wrap64 (1 + t236)) l2 t237 l4 t234 t238 bt240.1 true))) else (praxinoscopelaw18_GroupBack.j1 kj9 (wrap64 (1 + t235)) (wrap64 (1 + t236)) l2 t237 l4 t234 t238 bt240.1 true)) else (praxinoscopelaw18_GroupBack.j1 kj9 (wrap64 (1 + t235)) (wrap64 (1 + t236)) l2 t237 l4 t234 t238 bt240.1 true))) = some r := H
        have A14 := Aside0.mk A140
        clear A140
        replace H := Option.bind_eq_some_iff.mp H
        obtain ⟨⟨t240, t241⟩, A150, H⟩ := H
        replace H : (if t239 = 0 then (if t241 = 0 then ((praxinoscopelaw18_bits.f kj9 t238).bind fun t242 => (if t242 = true then ((praxinoscopelaw18_bits.f kj9 t240).bind fun t243 => (if t243 = true then (if (t238.size : Int) = (wrap64 (6 + (wrap64 (9 * (l2.length : Int))))) then (praxinoscopelaw18_GroupBack.j1 kj9 (wrap64 (1 + t235)) (wrap64 (1 + t236)) l2 t237 l4 t234 t238 t240 ((t240.size : Int) != (wrap64 (20 + (t238.size : Int))))) else (praxinoscopelaw18_GroupBack.j1 kj9 (wrap64 (1 + t235)) (wrap64 (1 + t236)) l2 t237 l4 t234 t238 t240 true)) else (praxinoscopelaw18_GroupBack.j1 kj9 (wrap64 (1 + t235)) (wrap64 (1 + t236)) l2 t237 l4 t234 t238 t240 true))) else (praxinoscopelaw18_GroupBack.j1 kj9 (wrap64 (1 + t235)) (wrap64 (1 + t236)) l2 t237 l4 t234 t238 t240 true))) else (praxinoscopelaw18_GroupBack.j1 kj9 (wrap64 (1 + t235)) (wrap64 (1 + t236)) l2 t237 l4 t234 t238 t240 true)) else (praxinoscopelaw18_GroupBack.j1 kj9 (wrap64 (1 + t235)) (wrap64 (1 + t236)) l2 t237 l4 t234 t238 t240 true)) = some r := H
        have A15 := Aside0.mk A150
        clear A150
        have HC16 := Aside0.mk H
        clear H
        go_upto_region 7 with (first | ((with_reducible refine gate_callee (f := 37) rfl ?_); refine goesL_ (some 37) rfl rfl Try.func37 (by kernel_rfl) rfl #[.int .i64 (wrap64 (1 + t236)), .slice A2 l2.length c2] rfl (by (try simp only [List.map_toArray, List.map_cons, List.map_nil]); first | done | rfl | (simp only [List.length_drop, List.length_take]; rfl)) ?_; (with_reducible refine (group_Put.calls kj9 (wrap64 (1 + t236)) _ _ l2 t238 t239 _ ?side1 ?side2 A14.out).mono ?_); (case side1 => repeat (first | exact (Kd.C_below HR2.out HB.out) | (with_reducible refine Kd.C_alloc ?_ _) | (with_reducible refine Kd.C_drewN ?_ _) | (with_reducible refine Kd.C_drew ?_))); (case side2 => exact HC2.out); rintro e w17 ⟨rfl, hb⟩; refine ⟨_, rfl, ?_⟩; have n0_ := Aside0.mk (below_step (by repeat (first | (with_reducible first | exact HB.out | apply below_alloc | apply pw_below_drewN | apply below_drew1) | exact HB.out)) hb); clear HB; have HB := n0_; clear n0_; (try clear hb); (try clear hb2); (try clear hk); (try clear hi)) | ((with_reducible refine gate_callee (f := 38) rfl ?_); refine goesL_ (some 44) rfl rfl Try.func38 (by kernel_rfl) rfl #[.int .i64 (wrap64 (1 + t235)), .int .i64 (wrap64 (1 + t236)), .slice A2 l2.length c2] rfl (by (try simp only [List.map_toArray, List.map_cons, List.map_nil]); first | done | rfl | (simp only [List.length_drop, List.length_take]; rfl)) ?_; (with_reducible refine (group_Whole.calls kj9 (wrap64 (1 + t235)) (wrap64 (1 + t236)) _ _ l2 t240 t241 _ ?side1 ?side2 A15.out).mono ?_); (case side1 => repeat (first | exact (Kd.C_below HR2.out HB.out) | (with_reducible refine Kd.C_alloc ?_ _) | (with_reducible refine Kd.C_drewN ?_ _) | (with_reducible refine Kd.C_drew ?_))); (case side2 => exact HC2.out); rintro e w18 ⟨rfl, hb⟩; refine ⟨_, rfl, ?_⟩; have n0_ := Aside0.mk (below_step (by repeat (first | (with_reducible first | exact HB.out | apply below_alloc | apply pw_below_drewN | apply below_drew1) | exact HB.out)) hb); clear HB; have HB := n0_; clear n0_; (try clear hb); (try clear hb2); (try clear hk); (try clear hi)))
        (try simp only [Act.put, List.setIfInBounds_toArray, List.set_cons_zero, List.set_cons_succ])
        go_cut [79] (fun v79 wc => ∃ (kq : Nat) (x79_15 : Bool), v79 = .bool x79_15 ∧ Aside0 (praxinoscopelaw18_GroupBack.j1 kq (wrap64 (1 + t235)) (wrap64 (1 + t236)) l2 t237 l4 t234 t238 t240 x79_15 = some r) ∧ Aside0 (kq ≤ kj9) ∧ Aside0 (Below w.heap.size w wc))
        case first =>
          have H := HC16.out
          clear HC16
          by_cases c19 : t239 = 0
          · rw [if_pos c19] at H
            have c19b0 : (t239 == 0) = true := beq_iff_eq.mpr c19
            have c19b1 : (t239 != 0) = false := bne_eq_false_iff_eq.mpr c19
            clear c19
            (first | rw [c19b0] | (simp only [i64_w, i32_w]; rw [c19b0]) | skip)
            by_cases c20 : t241 = 0
            · rw [if_pos c20] at H
              have c20b0 : (t241 == 0) = true := beq_iff_eq.mpr c20
              have c20b1 : (t241 != 0) = false := bne_eq_false_iff_eq.mpr c20
              clear c20
              replace H := Option.bind_eq_some_iff.mp H
              obtain ⟨t242, A210, H⟩ := H
              replace H : (if t242 = true then ((praxinoscopelaw18_bits.f kj9 t240).bind fun t243 => (if t243 = true then (if (t238.size : Int) = (wrap64 (6 + (wrap64 (9 * (l2.length : Int))))) then (praxinoscopelaw18_GroupBack.j1 kj9 (wrap64 (1 + t235)) (wrap64 (1 + t236)) l2 t237 l4 t234 t238 t240 ((t240.size : Int) != (wrap64 (20 + (t238.size : Int))))) else (praxinoscopelaw18_GroupBack.j1 kj9 (wrap64 (1 + t235)) (wrap64 (1 + t236)) l2 t237 l4 t234 t238 t240 true)) else (praxinoscopelaw18_GroupBack.j1 kj9 (wrap64 (1 + t235)) (wrap64 (1 + t236)) l2 t237 l4 t234 t238 t240 true))) else (praxinoscopelaw18_GroupBack.j1 kj9 (wrap64 (1 + t235)) (wrap64 (1 + t236)) l2 t237 l4 t234 t238 t240 true)) = some r := H
              have A21 := Aside0.mk A210
              clear A210
              by_cases c22 : t242 = true
              · subst c22
                have H1 : ((praxinoscopelaw18_bits.f kj9 t240).bind fun t243 => (if t243 = true then (if (t238.size : Int) = (wrap64 (6 + (wrap64 (9 * (l2.length : Int))))) then (praxinoscopelaw18_GroupBack.j1 kj9 (wrap64 (1 + t235)) (wrap64 (1 + t236)) l2 t237 l4 t234 t238 t240 ((t240.size : Int) != (wrap64 (20 + (t238.size : Int))))) else (praxinoscopelaw18_GroupBack.j1 kj9 (wrap64 (1 + t235)) (wrap64 (1 + t236)) l2 t237 l4 t234 t238 t240 true)) else (praxinoscopelaw18_GroupBack.j1 kj9 (wrap64 (1 + t235)) (wrap64 (1 + t236)) l2 t237 l4 t234 t238 t240 true))) = some r := by rw [if_pos rfl] at H; exact H
                clear H
                have H := H1
                clear H1
                replace H := Option.bind_eq_some_iff.mp H
                obtain ⟨t243, A230, H⟩ := H
                replace H : (if t243 = true then (if (t238.size : Int) = (wrap64 (6 + (wrap64 (9 * (l2.length : Int))))) then (praxinoscopelaw18_GroupBack.j1 kj9 (wrap64 (1 + t235)) (wrap64 (1 + t236)) l2 t237 l4 t234 t238 t240 ((t240.size : Int) != (wrap64 (20 + (t238.size : Int))))) else (praxinoscopelaw18_GroupBack.j1 kj9 (wrap64 (1 + t235)) (wrap64 (1 + t236)) l2 t237 l4 t234 t238 t240 true)) else (praxinoscopelaw18_GroupBack.j1 kj9 (wrap64 (1 + t235)) (wrap64 (1 + t236)) l2 t237 l4 t234 t238 t240 true)) = some r := H
                have A23 := Aside0.mk A230
                clear A230
                by_cases c24 : t243 = true
                · subst c24
                  have H1 : (if (t238.size : Int) = (wrap64 (6 + (wrap64 (9 * (l2.length : Int))))) then (praxinoscopelaw18_GroupBack.j1 kj9 (wrap64 (1 + t235)) (wrap64 (1 + t236)) l2 t237 l4 t234 t238 t240 ((t240.size : Int) != (wrap64 (20 + (t238.size : Int))))) else (praxinoscopelaw18_GroupBack.j1 kj9 (wrap64 (1 + t235)) (wrap64 (1 + t236)) l2 t237 l4 t234 t238 t240 true)) = some r := by rw [if_pos rfl] at H; exact H
                  clear H
                  have H := H1
                  clear H1
                  by_cases c25 : (t238.size : Int) = (wrap64 (6 + (wrap64 (9 * (l2.length : Int)))))
                  · rw [if_pos c25] at H
                    have c25b0 : ((t238.size : Int) == (wrap64 (6 + (wrap64 (9 * (l2.length : Int)))))) = true := beq_iff_eq.mpr c25
                    have c25b1 : ((t238.size : Int) != (wrap64 (6 + (wrap64 (9 * (l2.length : Int)))))) = false := bne_eq_false_iff_eq.mpr c25
                    clear c25
                    have H' := Aside0.mk H
                    clear H
                    go_wp2_with (first | (go_at_call 39; (with_reducible refine (praxinoscopelaw18_bits.calls kj9 t238 true _ A21.out).mono ?_); rintro e w' ⟨rfl, ⟨nd, rfl⟩⟩) | (go_at_call 39; (with_reducible refine (praxinoscopelaw18_bits.calls kj9 t240 true _ A23.out).mono ?_); rintro e w' ⟨rfl, ⟨nd, rfl⟩⟩))
                    go_meet
                    case rel => exact ⟨_, (((t240.size : Int) != (wrap64 (20 + (t238.size : Int))))), (by first | rfl | (simp; done) | (simp [*]; done)), H', ⟨by have := HJ9.out; first | omega | exact Nat.le_refl _⟩, ⟨by repeat (first | (with_reducible first | exact HB.out | apply below_alloc | apply pw_below_drewN | apply below_drew1) | exact HB.out)⟩⟩
                  · rw [if_neg c25] at H
                    have c25b0 : ((t238.size : Int) == (wrap64 (6 + (wrap64 (9 * (l2.length : Int)))))) = false := beq_eq_false_iff_ne.mpr c25
                    have c25b1 : ((t238.size : Int) != (wrap64 (6 + (wrap64 (9 * (l2.length : Int)))))) = true := bne_iff_ne.mpr c25
                    have H' := Aside0.mk H
                    clear H
                    go_wp2_with (first | (go_at_call 39; (with_reducible refine (praxinoscopelaw18_bits.calls kj9 t238 true _ A21.out).mono ?_); rintro e w' ⟨rfl, ⟨nd, rfl⟩⟩) | (go_at_call 39; (with_reducible refine (praxinoscopelaw18_bits.calls kj9 t240 true _ A23.out).mono ?_); rintro e w' ⟨rfl, ⟨nd, rfl⟩⟩))
                    go_meet
                    case rel => exact ⟨_, (true), (by first | rfl | (simp; done) | (simp [*]; done)), H', ⟨by have := HJ9.out; first | omega | exact Nat.le_refl _⟩, ⟨by repeat (first | (with_reducible first | exact HB.out | apply below_alloc | apply pw_below_drewN | apply below_drew1) | exact HB.out)⟩⟩
                · replace c24 := Bool.eq_false_iff.mpr c24
                  subst c24
                  have H1 : (praxinoscopelaw18_GroupBack.j1 kj9 (wrap64 (1 + t235)) (wrap64 (1 + t236)) l2 t237 l4 t234 t238 t240 true) = some r := by rw [if_neg (show ¬ (false = true) by decide)] at H; exact H
                  clear H
                  have H := H1
                  clear H1
                  have H' := Aside0.mk H
                  clear H
                  go_wp2_with (first | (go_at_call 39; (with_reducible refine (praxinoscopelaw18_bits.calls kj9 t238 true _ A21.out).mono ?_); rintro e w' ⟨rfl, ⟨nd, rfl⟩⟩) | (go_at_call 39; (with_reducible refine (praxinoscopelaw18_bits.calls kj9 t240 false _ A23.out).mono ?_); rintro e w' ⟨rfl, ⟨nd, rfl⟩⟩))
                  go_meet
                  case rel => exact ⟨_, (true), (by first | rfl | (simp; done) | (simp [*]; done)), H', ⟨by have := HJ9.out; first | omega | exact Nat.le_refl _⟩, ⟨by repeat (first | (with_reducible first | exact HB.out | apply below_alloc | apply pw_below_drewN | apply below_drew1) | exact HB.out)⟩⟩
              · replace c22 := Bool.eq_false_iff.mpr c22
                subst c22
                have H1 : (praxinoscopelaw18_GroupBack.j1 kj9 (wrap64 (1 + t235)) (wrap64 (1 + t236)) l2 t237 l4 t234 t238 t240 true) = some r := by rw [if_neg (show ¬ (false = true) by decide)] at H; exact H
                clear H
                have H := H1
                clear H1
                have H' := Aside0.mk H
                clear H
                go_wp2_with (first | (go_at_call 39; (with_reducible refine (praxinoscopelaw18_bits.calls kj9 t238 false _ A21.out).mono ?_); rintro e w' ⟨rfl, ⟨nd, rfl⟩⟩))
                go_meet
                case rel => exact ⟨_, (true), (by first | rfl | (simp; done) | (simp [*]; done)), H', ⟨by have := HJ9.out; first | omega | exact Nat.le_refl _⟩, ⟨by repeat (first | (with_reducible first | exact HB.out | apply below_alloc | apply pw_below_drewN | apply below_drew1) | exact HB.out)⟩⟩
            · rw [if_neg c20] at H
              have c20b0 : (t241 == 0) = false := beq_eq_false_iff_ne.mpr c20
              have c20b1 : (t241 != 0) = true := bne_iff_ne.mpr c20
              have H' := Aside0.mk H
              clear H
              go_wp2
              go_meet
              case rel => exact ⟨_, (true), (by first | rfl | (simp; done) | (simp [*]; done)), H', ⟨by have := HJ9.out; first | omega | exact Nat.le_refl _⟩, ⟨by repeat (first | (with_reducible first | exact HB.out | apply below_alloc | apply pw_below_drewN | apply below_drew1) | exact HB.out)⟩⟩
          · rw [if_neg c19] at H
            have c19b0 : (t239 == 0) = false := beq_eq_false_iff_ne.mpr c19
            have c19b1 : (t239 != 0) = true := bne_iff_ne.mpr c19
            (first | rw [c19b0] | (simp only [i64_w, i32_w]; rw [c19b0]) | skip)
            have H' := Aside0.mk H
            clear H
            go_wp2
            go_meet
            case rel => exact ⟨_, (true), (by first | rfl | (simp; done) | (simp [*]; done)), H', ⟨by have := HJ9.out; first | omega | exact Nat.le_refl _⟩, ⟨by repeat (first | (with_reducible first | exact HB.out | apply below_alloc | apply pw_below_drewN | apply below_drew1) | exact HB.out)⟩⟩
        case rest =>
          clear HC16
          try clear c1
          try clear c2
          try clear p2
          try clear c3
          try clear c4
          try clear p6
          try clear c7
          try clear c12
          try clear c12b0
          try clear c12b1
          try clear c13
          try clear c19
          try clear c19b0
          try clear c19b1
          try clear c20
          try clear c20b0
          try clear c20b1
          try clear c22
          try clear c24
          try clear c25
          try clear c25b0
          try clear c25b1
          try clear p2
          try clear p6
          obtain ⟨kq, x79_15, rfl, HA, HJ15, HB⟩ := hcut
          cases kq with
          | zero => exact absurd HA.out (by simp [praxinoscopelaw18_GroupBack.j1])
          | succ kj15 =>
            have H := HA.out
            clear HA
            simp only [praxinoscopelaw18_GroupBack.j1] at H
            by_cases c26 : x79_15 = true
            · subst c26
              have H1 : (some false) = some r := by rw [if_pos rfl] at H; exact H
              clear H
              have H := H1
              clear H1
              obtain rfl := Option.some.inj H
              go_wp2
              go_ret
              exact ⟨by first | rfl | (simp [errW_none, errW_some] <;> rfl) | (simp [*, errW_none, errW_some] <;> rfl), by repeat (first | (with_reducible first | exact HB.out | apply below_alloc | apply pw_below_drewN | apply below_drew1) | exact HB.out)⟩
            · replace c26 := Bool.eq_false_iff.mpr c26
              subst c26
              have H1 : (if t234 = true then ((praxinoscopelaw18_bytes.f kj15 0 t238 l4).bind fun t244 => ((praxinoscopelaw18_gets.f kj15 t244 (wrap64 (1 + t236)) l2 (t238.size : Int) 0).bind fun t247 => (if t247 = true then ((praxinoscopelaw18_bytes.f kj15 t237 t240 l4).bind fun t248 => ((praxinoscopelaw18_opens.f kj15 t248 (wrap64 (1 + t235)) (wrap64 (1 + t236)) l2 (wrap64 (t237 + (t240.size : Int))) 0).bind fun t251 => (some t251))) else (some false)))) else (some false)) = some r := by rw [if_neg (show ¬ (false = true) by decide)] at H; exact H
              clear H
              have H := H1
              clear H1
              by_cases c27 : t234 = true
              · subst c27
                have H1 : ((praxinoscopelaw18_bytes.f kj15 0 t238 l4).bind fun t244 => ((praxinoscopelaw18_gets.f kj15 t244 (wrap64 (1 + t236)) l2 (t238.size : Int) 0).bind fun t247 => (if t247 = true then ((praxinoscopelaw18_bytes.f kj15 t237 t240 l4).bind fun t248 => ((praxinoscopelaw18_opens.f kj15 t248 (wrap64 (1 + t235)) (wrap64 (1 + t236)) l2 (wrap64 (t237 + (t240.size : Int))) 0).bind fun t251 => (some t251))) else (some false)))) = some r := by rw [if_pos rfl] at H; exact H
                clear H
                have H := H1
                clear H1
                replace H := Option.bind_eq_some_iff.mp H
                obtain ⟨t244, A280, H⟩ := H
                replace H : ((praxinoscopelaw18_gets.f kj15 t244 (wrap64 (1 + t236)) l2 (t238.size : Int) 0).bind fun t247 => (if t247 = true then ((praxinoscopelaw18_bytes.f kj15 t237 t240 l4).bind fun t248 => ((praxinoscopelaw18_opens.f kj15 t248 (wrap64 (1 + t235)) (wrap64 (1 + t236)) l2 (wrap64 (t237 + (t240.size : Int))) 0).bind fun t251 => (some t251))) else (some false))) = some r := H
                have A28 := Aside0.mk A280
                clear A280
                replace H := Option.bind_eq_some_iff.mp H
                obtain ⟨t247, A290, H⟩ := H
                replace H : (if t247 = true then ((praxinoscopelaw18_bytes.f kj15 t237 t240 l4).bind fun t248 => ((praxinoscopelaw18_opens.f kj15 t248 (wrap64 (1 + t235)) (wrap64 (1 + t236)) l2 (wrap64 (t237 + (t240.size : Int))) 0).bind fun t251 => (some t251))) else (some false)) = some r := H
                have A29 := Aside0.mk A290
                clear A290
                by_cases c30 : t247 = true
                · subst c30
                  have H1 : ((praxinoscopelaw18_bytes.f kj15 t237 t240 l4).bind fun t248 => ((praxinoscopelaw18_opens.f kj15 t248 (wrap64 (1 + t235)) (wrap64 (1 + t236)) l2 (wrap64 (t237 + (t240.size : Int))) 0).bind fun t251 => (some t251))) = some r := by rw [if_pos rfl] at H; exact H
                  clear H
                  have H := H1
                  clear H1
                  replace H := Option.bind_eq_some_iff.mp H
                  obtain ⟨t248, A310, H⟩ := H
                  replace H : ((praxinoscopelaw18_opens.f kj15 t248 (wrap64 (1 + t235)) (wrap64 (1 + t236)) l2 (wrap64 (t237 + (t240.size : Int))) 0).bind fun t251 => (some t251)) = some r := H
                  have A31 := Aside0.mk A310
                  clear A310
                  replace H := Option.bind_eq_some_iff.mp H
                  obtain ⟨t251, A320, H⟩ := H
                  replace H : (some t251) = some r := H
                  have A32 := Aside0.mk A320
                  clear A320
                  obtain rfl := Option.some.inj H
                  go_wp2_with (first | (go_at_call 41; (with_reducible refine (praxinoscopelaw18_bytes.calls kj15 0 t238 _ _ l4 t244 _ ?side1 ?side2 A28.out).mono ?_); (case side1 => repeat (first | exact (Kd.C_below HR4.out HB.out) | (with_reducible refine Kd.C_alloc ?_ _) | (with_reducible refine Kd.C_drewN ?_ _) | (with_reducible refine Kd.C_drew ?_))); (case side2 => exact HC4.out); rintro e w33 ⟨v245, rfl, ho0, hb⟩; have n0_ := Aside0.mk (Kd.R_lower ho0 (below_size (by repeat (first | (with_reducible first | exact HB.out | apply below_alloc | apply pw_below_drewN | apply below_drew1) | exact HB.out)))); have n1_ := Aside0.mk (below_step (by repeat (first | (with_reducible first | exact HB.out | apply below_alloc | apply pw_below_drewN | apply below_drew1) | exact HB.out)) hb); clear HB; have HO246 := n0_; have HB := n1_; clear n0_ n1_; (try clear hb); (try clear hb2); (try clear hk); (try clear hi); (try clear ho0); obtain ⟨Ao34, co34, eo34⟩ := Kd.R_slice HO246.out; subst eo34) | (go_at_call 40; (with_reducible refine (praxinoscopelaw18_gets.calls kj15 _ _ t244 (wrap64 (1 + t236)) _ _ l2 (t238.size : Int) 0 true _ ?side1 ?side2 ?side3 ?side4 A29.out).mono ?_); (case side1 => repeat (first | exact (Kd.R_reads' HO246.out).2.2 | (with_reducible refine Kd.C_alloc ?_ _) | (with_reducible refine Kd.C_drewN ?_ _) | (with_reducible refine Kd.C_drew ?_))); (case side2 => exact (Kd.R_reads' HO246.out).2.1); (case side3 => repeat (first | exact (Kd.C_below HR2.out HB.out) | (with_reducible refine Kd.C_alloc ?_ _) | (with_reducible refine Kd.C_drewN ?_ _) | (with_reducible refine Kd.C_drew ?_))); (case side4 => exact HC2.out); rintro e w35 ⟨rfl, hb⟩; have n0_ := Aside0.mk (Kd.R_below (by (with_reducible repeat (first | apply Kd.R_alloc | apply Kd.R_drewN | apply Kd.R_drew)); exact HO246.out) hb); have n1_ := Aside0.mk (below_step (by repeat (first | (with_reducible first | exact HB.out | apply below_alloc | apply pw_below_drewN | apply below_drew1) | exact HB.out)) hb); clear HO246; clear HB; have HO246 := n0_; have HB := n1_; clear n0_ n1_; (try clear hb); (try clear hb2); (try clear hk); (try clear hi)) | (go_at_call 41; (with_reducible refine (praxinoscopelaw18_bytes.calls kj15 t237 t240 _ _ l4 t248 _ ?side1 ?side2 A31.out).mono ?_); (case side1 => repeat (first | exact (Kd.C_below HR4.out HB.out) | (with_reducible refine Kd.C_alloc ?_ _) | (with_reducible refine Kd.C_drewN ?_ _) | (with_reducible refine Kd.C_drew ?_))); (case side2 => exact HC4.out); rintro e w36 ⟨v249, rfl, ho0, hb⟩; have n0_ := Aside0.mk (Kd.R_elder' (by (with_reducible repeat (first | apply Kd.R_alloc | apply Kd.R_drewN | apply Kd.R_drew)); exact HO246.out) (Kd.R_base ho0) hb); have n1_ := Aside0.mk (Kd.R_lower (Kd.R_new' ho0 (Kd.R_lt (by (with_reducible repeat (first | apply Kd.R_alloc | apply Kd.R_drewN | apply Kd.R_drew)); exact HO246.out))) (below_size (by repeat (first | (with_reducible first | exact HB.out | apply below_alloc | apply pw_below_drewN | apply below_drew1) | exact HB.out)))); have n2_ := Aside0.mk (below_step (by repeat (first | (with_reducible first | exact HB.out | apply below_alloc | apply pw_below_drewN | apply below_drew1) | exact HB.out)) hb); clear HO246; clear HB; have HO246 := n0_; have HO250 := n1_; have HB := n2_; clear n0_ n1_ n2_; (try clear hb); (try clear hb2); (try clear hk); (try clear hi); (try clear ho0); obtain ⟨Ao37, co37, eo37⟩ := Kd.R_slice HO250.out; subst eo37) | (go_at_call 42; (with_reducible refine (praxinoscopelaw18_opens.calls kj15 _ _ t248 (wrap64 (1 + t235)) (wrap64 (1 + t236)) _ _ l2 (wrap64 (t237 + (t240.size : Int))) 0 t251 _ ?side1 ?side2 ?side3 ?side4 A32.out).mono ?_); (case side1 => repeat (first | exact (Kd.R_reads' HO250.out).2.2 | (with_reducible refine Kd.C_alloc ?_ _) | (with_reducible refine Kd.C_drewN ?_ _) | (with_reducible refine Kd.C_drew ?_))); (case side2 => exact (Kd.R_reads' HO250.out).2.1); (case side3 => repeat (first | exact (Kd.C_below HR2.out HB.out) | (with_reducible refine Kd.C_alloc ?_ _) | (with_reducible refine Kd.C_drewN ?_ _) | (with_reducible refine Kd.C_drew ?_))); (case side4 => exact HC2.out); rintro e w38 ⟨rfl, hb⟩; have n0_ := Aside0.mk (Kd.R_below (by (with_reducible repeat (first | apply Kd.R_alloc | apply Kd.R_drewN | apply Kd.R_drew)); exact HO246.out) hb); have n1_ := Aside0.mk (Kd.R_below (by (with_reducible repeat (first | apply Kd.R_alloc | apply Kd.R_drewN | apply Kd.R_drew)); exact HO250.out) hb); have n2_ := Aside0.mk (below_step (by repeat (first | (with_reducible first | exact HB.out | apply below_alloc | apply pw_below_drewN | apply below_drew1) | exact HB.out)) hb); clear HO246; clear HO250; clear HB; have HO246 := n0_; have HO250 := n1_; have HB := n2_; clear n0_ n1_ n2_; (try clear hb); (try clear hb2); (try clear hk); (try clear hi)))
                  go_ret
                  exact ⟨by first | rfl | (simp [errW_none, errW_some] <;> rfl) | (simp [*, errW_none, errW_some] <;> rfl), by repeat (first | (with_reducible first | exact HB.out | apply below_alloc | apply pw_below_drewN | apply below_drew1) | exact HB.out)⟩
                · replace c30 := Bool.eq_false_iff.mpr c30
                  subst c30
                  have H1 : (some false) = some r := by rw [if_neg (show ¬ (false = true) by decide)] at H; exact H
                  clear H
                  have H := H1
                  clear H1
                  obtain rfl := Option.some.inj H
                  go_wp2_with (first | (go_at_call 41; (with_reducible refine (praxinoscopelaw18_bytes.calls kj15 0 t238 _ _ l4 t244 _ ?side1 ?side2 A28.out).mono ?_); (case side1 => repeat (first | exact (Kd.C_below HR4.out HB.out) | (with_reducible refine Kd.C_alloc ?_ _) | (with_reducible refine Kd.C_drewN ?_ _) | (with_reducible refine Kd.C_drew ?_))); (case side2 => exact HC4.out); rintro e w39 ⟨v245, rfl, ho0, hb⟩; have n0_ := Aside0.mk (Kd.R_lower ho0 (below_size (by repeat (first | (with_reducible first | exact HB.out | apply below_alloc | apply pw_below_drewN | apply below_drew1) | exact HB.out)))); have n1_ := Aside0.mk (below_step (by repeat (first | (with_reducible first | exact HB.out | apply below_alloc | apply pw_below_drewN | apply below_drew1) | exact HB.out)) hb); clear HB; have HO246 := n0_; have HB := n1_; clear n0_ n1_; (try clear hb); (try clear hb2); (try clear hk); (try clear hi); (try clear ho0); obtain ⟨Ao40, co40, eo40⟩ := Kd.R_slice HO246.out; subst eo40) | (go_at_call 40; (with_reducible refine (praxinoscopelaw18_gets.calls kj15 _ _ t244 (wrap64 (1 + t236)) _ _ l2 (t238.size : Int) 0 false _ ?side1 ?side2 ?side3 ?side4 A29.out).mono ?_); (case side1 => repeat (first | exact (Kd.R_reads' HO246.out).2.2 | (with_reducible refine Kd.C_alloc ?_ _) | (with_reducible refine Kd.C_drewN ?_ _) | (with_reducible refine Kd.C_drew ?_))); (case side2 => exact (Kd.R_reads' HO246.out).2.1); (case side3 => repeat (first | exact (Kd.C_below HR2.out HB.out) | (with_reducible refine Kd.C_alloc ?_ _) | (with_reducible refine Kd.C_drewN ?_ _) | (with_reducible refine Kd.C_drew ?_))); (case side4 => exact HC2.out); rintro e w41 ⟨rfl, hb⟩; have n0_ := Aside0.mk (Kd.R_below (by (with_reducible repeat (first | apply Kd.R_alloc | apply Kd.R_drewN | apply Kd.R_drew)); exact HO246.out) hb); have n1_ := Aside0.mk (below_step (by repeat (first | (with_reducible first | exact HB.out | apply below_alloc | apply pw_below_drewN | apply below_drew1) | exact HB.out)) hb); clear HO246; clear HB; have HO246 := n0_; have HB := n1_; clear n0_ n1_; (try clear hb); (try clear hb2); (try clear hk); (try clear hi)))
                  go_ret
                  exact ⟨by first | rfl | (simp [errW_none, errW_some] <;> rfl) | (simp [*, errW_none, errW_some] <;> rfl), by repeat (first | (with_reducible first | exact HB.out | apply below_alloc | apply pw_below_drewN | apply below_drew1) | exact HB.out)⟩
              · replace c27 := Bool.eq_false_iff.mpr c27
                subst c27
                have H1 : (some false) = some r := by rw [if_neg (show ¬ (false = true) by decide)] at H; exact H
                clear H
                have H := H1
                clear H1
                obtain rfl := Option.some.inj H
                go_wp2
                go_ret
                exact ⟨by first | rfl | (simp [errW_none, errW_some] <;> rfl) | (simp [*, errW_none, errW_some] <;> rfl), by repeat (first | (with_reducible first | exact HB.out | apply below_alloc | apply pw_below_drewN | apply below_drew1) | exact HB.out)⟩

/-- THE ONE PURE STATEMENT of praxinoscopelaw18_GroupBack: yours. -/
def praxinoscopelaw18_GroupBack.Pure : Prop := ∀ (a0 : Int) (a1 : Int) (l2 : List Int) (a3 : Int) (l4 : List Int), (Lit.int .i64 a0).wf = true → (Lit.int .i64 a1).wf = true → l2.length ≤ maxLen → l2.length * 1 ≤ 140737488351232 → (∀ x ∈ l2, (Lit.int .u8 x).wf = true) → (Lit.int .i64 a3).wf = true → l4.length ≤ maxLen → l4.length * 8 ≤ 140737488351232 → (∀ x ∈ l4, (Lit.int .i64 x).wf = true) → ∃ k, praxinoscopelaw18_GroupBack.f k a0 a1 l2 a3 l4 = some true
theorem praxinoscopelaw18_GroupBack.walk (P : praxinoscopelaw18_GroupBack.Pure) (a0 : Int) (a1 : Int) (a2 : Option Addr) (len2 cap2 : Nat) (z2 : List Int) (a3 : Int) (a4 : Option Addr) (len4 cap4 : Nat) (z4 : List Int) (w : World) (w0 : (Lit.int .i64 a0).wf = true) (w1 : (Lit.int .i64 a1).wf = true) (w2 : (a2 = none ∧ len2 = 0 ∧ cap2 = 0 ∧ z2 = []) ∨ ∃ x, a2 = some x ∧ len2 ≤ cap2 ∧ cap2 ≤ maxLen ∧ z2.length = cap2 ∧ (∀ i, i < z2.length → w.cell? (x.add i) = some (.int .u8 (z2.getD i 0))) ∧ ∀ n ∈ z2, (Lit.int .u8 n).wf = true) (y2 : len2 * 1 ≤ 140737488351232) (w3 : (Lit.int .i64 a3).wf = true) (w4 : (a4 = none ∧ len4 = 0 ∧ cap4 = 0 ∧ z4 = []) ∨ ∃ x, a4 = some x ∧ len4 ≤ cap4 ∧ cap4 ≤ maxLen ∧ z4.length = cap4 ∧ (∀ i, i < z4.length → w.cell? (x.add i) = some (.int .i64 (z4.getD i 0))) ∧ ∀ n ∈ z4, (Lit.int .i64 n).wf = true) (y4 : len4 * 8 ≤ 140737488351232) :
    Calls Try.prog 7 #[.int .i64 a0, .int .i64 a1, .slice a2 len2 cap2, .int .i64 a3, .slice a4 len4 cap4] w fun e w' => e = .returned (.bool true) ∧ Below w.heap.size w w' := by
  obtain ⟨l2, rfl, hr2, hm2, hw2, hc2⟩ := ReadsInt.ofRowC w2
  obtain ⟨l4, rfl, hr4, hm4, hw4, hc4⟩ := ReadsInt.ofRowC w4
  obtain ⟨k, h⟩ := P a0 a1 l2 a3 l4 w0 w1 hm2 y2 hw2 w3 hm4 y4 hw4
  refine (praxinoscopelaw18_GroupBack.calls k a0 a1 _ _ l2 a3 _ _ l4 true w (Kd.C_of_reads (d := (0 : Int)) (h1 := fun _ => rfl) hr2) hc2 (Kd.C_of_reads (d := (0 : Int)) (h1 := fun _ => rfl) hr4) hc4 h).mono ?_
  rintro e w' ⟨rfl, hd⟩
  exact ⟨rfl, hd⟩


-- NOT PRINTED: function 28 (praxinoscopekit_KeptBytes)










-- NOT PRINTED: function 8 (praxinoscopelaw18_GroupGets)

end Go.Proofs.Ytjbpcffmeaadeaa.Pr
