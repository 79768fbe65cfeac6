-- Written by myprint.py (wip/tools of this place's repo), over the kit's print.py. Not trusted: Lean checks it.
import Derived.Test.YtjbpcffmeaadeaaTopG0
import Derived.Test.YtjbpcffmeaadeaaTopG1
namespace Go.Proofs.Ytjbpcffmeaadeaa.Pr
open Go.RowKit Go.Proofs.YtjbpcffmeaadeaaW.PrintWords Go.Proofs.YtjbpcffmeaadeaaW.PrintLast Go.Proofs.YtjbpcffmeaadeaaW.PrintMore
attribute [local go_sem] max2_int min2_int max_two min_two max_three min_three max_four min_four   -- for this text's walks alone
set_option linter.unusedVariables false
set_option linter.unusedSimpArgs false

/-! ### praxinoscopelaw18_GroupLong: function 11 -/
mutual
def praxinoscopelaw18_GroupLong.l0 : Nat → Int → Int → List Int → Bool → List Int → Int → Option (Bool)
  | 0, _, _, _, _, _, _ => none
  | k + 1, x0, x1, x2, x7, x8, x9 => if x9 < 32 then (if x8.length < 140737488355328 then (praxinoscopelaw18_GroupLong.l0 k x0 x1 x2 x7 (x8 ++ [(x1 + x9) % 256]) (wrap64 (x9 + 1))) else (none)) else ((group_Put.f k x0 x8).bind fun bt361 => ((praxinoscopekit_CopyBytes.f x8).bind fun t363 => (if t363.length < 140737488355328 then ((group_Put.f k x0 (t363 ++ [x1])).bind fun bt369 => (if bt361.2 = 0 then (if bt369.2 = 2 then ((praxinoscopelaw18_bits.f k bt361.1).bind fun t371 => (if t371 = true then (praxinoscopelaw18_GroupLong.j1 k x0 x2 x7 x8 bt361.1 ((bt361.1.size : Int) != 294)) else (praxinoscopelaw18_GroupLong.j1 k x0 x2 x7 x8 bt361.1 true))) else (praxinoscopelaw18_GroupLong.j1 k x0 x2 x7 x8 bt361.1 true)) else (praxinoscopelaw18_GroupLong.j1 k x0 x2 x7 x8 bt361.1 true))) else (none))))
def praxinoscopelaw18_GroupLong.j1 : Nat → Int → List Int → Bool → List Int → ByteArray → Bool → Option (Bool)
  | 0, _, _, _, _, _, _ => none
  | k + 1, x0, x2, x7, x8, x10, x65 => if x65 = true then (some false) else (if 0 ≤ 293 then (if 293 ≤ (x10.size : Int) then (if (x10.extract 0 293).size + 1 ≤ 9223372036854775807 then (if x7 = true then ((praxinoscopelaw18_bytes.f k 0 x10 x2).bind fun t372 => ((praxinoscopelaw18_gets.f k t372 x0 x8 294 0).bind fun t375 => (if t375 = true then ((praxinoscopelaw18_bytes.f k 0 ((x10.extract 0 293) ++ (⟨#[49]⟩ : ByteArray)) x2).bind fun t376 => ((praxinoscopelaw18_gets.f k t376 0 ([] : List Int) 0 4).bind fun t379 => (some t379))) else (some false)))) else (some false)) else (none)) else (none)) else (none))
end
def praxinoscopelaw18_GroupLong.f (k : Nat) (a0 : Int) (a1 : Int) (l2 : List Int) : Option (Bool) := (praxinoscopelaw18_awake.f k).bind fun t356 => ((praxinoscopekit_Pick.f a0 31).bind fun t357 => (if (l2.length : Int) > 20 then (some t356) else (praxinoscopelaw18_GroupLong.l0 k (wrap64 (1 + t357)) a1 l2 t356 ([] : List Int) 0)))
theorem praxinoscopelaw18_GroupLong.mono_l : ∀ k, (∀ y0 y1 y2 y3 y4 y5, LeO (praxinoscopelaw18_GroupLong.l0 k y0 y1 y2 y3 y4 y5) (praxinoscopelaw18_GroupLong.l0 (k + 1) y0 y1 y2 y3 y4 y5)) ∧ (∀ y0 y1 y2 y3 y4 y5, LeO (praxinoscopelaw18_GroupLong.j1 k y0 y1 y2 y3 y4 y5) (praxinoscopelaw18_GroupLong.j1 (k + 1) y0 y1 y2 y3 y4 y5))
  | 0 => ⟨fun _ _ _ _ _ _ r h => by simp [praxinoscopelaw18_GroupLong.l0] at h, fun _ _ _ _ _ _ r h => by simp [praxinoscopelaw18_GroupLong.j1] at h⟩
  | k + 1 => by
    obtain ⟨ih0, ih1⟩ := praxinoscopelaw18_GroupLong.mono_l k
    refine ⟨?_, ?_⟩
    · intro y0 y1 y2 y3 y4 y5
      unfold praxinoscopelaw18_GroupLong.l0
      repeat' first
      | (with_reducible exact ih0 _ _ _ _ _ _)
      | (with_reducible exact ih1 _ _ _ _ _ _)
      | (with_reducible exact group_Put.mono _ _ _)
      | (with_reducible exact praxinoscopelaw18_awake.mono _)
      | (with_reducible exact praxinoscopelaw18_bits.mono _ _)
      | (with_reducible exact praxinoscopelaw18_bytes.mono _ _ _ _)
      | (with_reducible exact praxinoscopelaw18_gets.mono _ _ _ _ _ _)
      | (with_reducible exact LeO.refl _)
      | (with_reducible exact LeO.none _)
      | (with_reducible refine LeO.ite ?_ ?_)
      | (with_reducible refine LeO.bind ?_ (fun _ => ?_))
      | exact ih0 _ _ _ _ _ _
      | exact ih1 _ _ _ _ _ _
      | exact group_Put.mono _ _ _
      | exact praxinoscopelaw18_awake.mono _
      | exact praxinoscopelaw18_bits.mono _ _
      | exact praxinoscopelaw18_bytes.mono _ _ _ _
      | exact praxinoscopelaw18_gets.mono _ _ _ _ _ _
      | exact LeO.none _
      | refine LeO.ite ?_ ?_
      | refine LeO.bind ?_ (fun _ => ?_)
    · intro y0 y1 y2 y3 y4 y5
      unfold praxinoscopelaw18_GroupLong.j1
      repeat' first
      | (with_reducible exact ih0 _ _ _ _ _ _)
      | (with_reducible exact ih1 _ _ _ _ _ _)
      | (with_reducible exact group_Put.mono _ _ _)
      | (with_reducible exact praxinoscopelaw18_awake.mono _)
      | (with_reducible exact praxinoscopelaw18_bits.mono _ _)
      | (with_reducible exact praxinoscopelaw18_bytes.mono _ _ _ _)
      | (with_reducible exact praxinoscopelaw18_gets.mono _ _ _ _ _ _)
      | (with_reducible exact LeO.refl _)
      | (with_reducible exact LeO.none _)
      | (with_reducible refine LeO.ite ?_ ?_)
      | (with_reducible refine LeO.bind ?_ (fun _ => ?_))
      | exact ih0 _ _ _ _ _ _
      | exact ih1 _ _ _ _ _ _
      | exact group_Put.mono _ _ _
      | exact praxinoscopelaw18_awake.mono _
      | exact praxinoscopelaw18_bits.mono _ _
      | exact praxinoscopelaw18_bytes.mono _ _ _ _
      | exact praxinoscopelaw18_gets.mono _ _ _ _ _ _
      | exact LeO.none _
      | refine LeO.ite ?_ ?_
      | refine LeO.bind ?_ (fun _ => ?_)
theorem praxinoscopelaw18_GroupLong.mono : ∀ a0 a1 a2 k, LeO (praxinoscopelaw18_GroupLong.f k a0 a1 a2) (praxinoscopelaw18_GroupLong.f (k + 1) a0 a1 a2) := by
  intro a0 a1 a2 k
  obtain ⟨ih0, ih1⟩ := praxinoscopelaw18_GroupLong.mono_l k
  unfold praxinoscopelaw18_GroupLong.f
  repeat' first
      | (with_reducible exact ih0 _ _ _ _ _ _)
      | (with_reducible exact ih1 _ _ _ _ _ _)
      | (with_reducible exact group_Put.mono _ _ _)
      | (with_reducible exact praxinoscopelaw18_awake.mono _)
      | (with_reducible exact praxinoscopelaw18_bits.mono _ _)
      | (with_reducible exact praxinoscopelaw18_bytes.mono _ _ _ _)
      | (with_reducible exact praxinoscopelaw18_gets.mono _ _ _ _ _ _)
      | (with_reducible exact LeO.refl _)
      | (with_reducible exact LeO.none _)
      | (with_reducible refine LeO.ite ?_ ?_)
      | (with_reducible refine LeO.bind ?_ (fun _ => ?_))
      | exact ih0 _ _ _ _ _ _
      | exact ih1 _ _ _ _ _ _
      | exact group_Put.mono _ _ _
      | exact praxinoscopelaw18_awake.mono _
      | exact praxinoscopelaw18_bits.mono _ _
      | exact praxinoscopelaw18_bytes.mono _ _ _ _
      | exact praxinoscopelaw18_gets.mono _ _ _ _ _ _
      | exact LeO.none _
      | refine LeO.ite ?_ ?_
      | refine LeO.bind ?_ (fun _ => ?_)
set_option maxHeartbeats 8000000 in
set_option maxRecDepth 100000 in
theorem praxinoscopelaw18_GroupLong.calls (k : Nat) (a0 : Int) (a1 : Int) (A2 : Option Addr) (c2 : Nat) (l2 : List Int) (r : Bool) (w : World) (hr2 : Kd.C (Kd.int .i64) w A2 l2.length l2) (hc2 : l2.length ≤ c2) (h : praxinoscopelaw18_GroupLong.f k a0 a1 l2 = some r) :
    Calls Try.prog 11 #[.int .i64 a0, .int .u8 a1, .slice A2 l2.length c2] w fun e w' => e = .returned (.bool r) ∧ Below w.heap.size w w' := by
  have HR2 := Aside0.mk hr2
  have HC2 := Aside0.mk hc2
  clear hr2 hc2
  have HB := Aside0.mk (Below.refl w.heap.size w)
  have H : ((praxinoscopelaw18_awake.f k).bind fun t356 => ((praxinoscopekit_Pick.f a0 31).bind fun t357 => (if (l2.length : Int) > 20 then (some t356) else (praxinoscopelaw18_GroupLong.l0 k (wrap64 (1 + t357)) a1 l2 t356 ([] : List Int) 0)))) = some r := h
  clear h
  replace H := Option.bind_eq_some_iff.mp H
  obtain ⟨t356, A40, H⟩ := H
  replace H : ((praxinoscopekit_Pick.f a0 31).bind fun t357 => (if (l2.length : Int) > 20 then (some t356) else (praxinoscopelaw18_GroupLong.l0 k (wrap64 (1 + t357)) a1 l2 t356 ([] : List Int) 0))) = some r := H
  have A4 := Aside0.mk A40
  clear A40
  replace H := Option.bind_eq_some_iff.mp H
  obtain ⟨t357, A50, H⟩ := H
  replace H : (if (l2.length : Int) > 20 then (some t356) else (praxinoscopelaw18_GroupLong.l0 k (wrap64 (1 + t357)) a1 l2 t356 ([] : List Int) 0)) = some r := H
  have A5 := Aside0.mk A50
  clear A50
  by_cases c6 : (l2.length : Int) > 20
  · rw [if_pos c6] at H
    have c6b0 : decide (20 < (l2.length : Int)) = true := decide_eq_true c6
    have c6b1 : decide (20 < l2.length) = true := decide_eq_true (by omega)
    clear c6
    obtain rfl := Option.some.inj H
    go_enter Try.func11, Try.ntmps11
    go_wp2_with (first | ((with_reducible refine gate_callee (f := 43) rfl ?_); refine goesL_ (some 15) rfl rfl Try.func43 (by kernel_rfl) rfl #[] rfl (by (try simp only [List.map_toArray, List.map_cons, List.map_nil]); first | done | rfl | (simp only [List.length_drop, List.length_take]; rfl)) ?_; (with_reducible refine (praxinoscopelaw18_awake.calls k  t356 _ A4.out).mono ?_); rintro e w7 ⟨rfl, hb⟩; refine ⟨_, rfl, ?_⟩; have n0_ := Aside0.mk (below_step (by repeat (first | (with_reducible first | exact HB.out | apply below_alloc | apply pw_below_drewN | apply below_drew1) | exact HB.out)) hb); clear HB; have HB := n0_; clear n0_; (try clear hb); (try clear hb2); (try clear hk); (try clear hi)) | ((with_reducible refine gate_callee (f := 35) rfl ?_); refine goesL_ (some 17) rfl rfl Try.func35 (by kernel_rfl) rfl #[.int .i64 a0, .int .i64 31] rfl (by (try simp only [List.map_toArray, List.map_cons, List.map_nil]); first | done | rfl | (simp only [List.length_drop, List.length_take]; rfl)) ?_; (with_reducible refine (praxinoscopekit_Pick.calls a0 31 t357 _ A5.out).mono ?_); rintro e w' ⟨rfl, ⟨nd, rfl⟩⟩; refine ⟨_, rfl, ?_⟩))
    go_ret
    exact ⟨by first | rfl | (simp [errW_none, errW_some] <;> rfl) | (simp [*, errW_none, errW_some] <;> rfl), by repeat (first | (with_reducible first | exact HB.out | apply below_alloc | apply pw_below_drewN | apply below_drew1) | exact HB.out)⟩
  · rw [if_neg c6] at H
    have c6b0 : decide (20 < (l2.length : Int)) = false := decide_eq_false c6
    have c6b1 : decide (20 < l2.length) = false := decide_eq_false (by omega)
    clear c6
    have H' := Aside0.mk H
    clear H
    go_enter Try.func11, Try.ntmps11
    go_wp2_with (first | ((with_reducible refine gate_callee (f := 43) rfl ?_); refine goesL_ (some 15) rfl rfl Try.func43 (by kernel_rfl) rfl #[] rfl (by (try simp only [List.map_toArray, List.map_cons, List.map_nil]); first | done | rfl | (simp only [List.length_drop, List.length_take]; rfl)) ?_; (with_reducible refine (praxinoscopelaw18_awake.calls k  t356 _ A4.out).mono ?_); rintro e w8 ⟨rfl, hb⟩; refine ⟨_, rfl, ?_⟩; have n0_ := Aside0.mk (below_step (by repeat (first | (with_reducible first | exact HB.out | apply below_alloc | apply pw_below_drewN | apply below_drew1) | exact HB.out)) hb); clear HB; have HB := n0_; clear n0_; (try clear hb); (try clear hb2); (try clear hk); (try clear hi)) | ((with_reducible refine gate_callee (f := 35) rfl ?_); refine goesL_ (some 17) rfl rfl Try.func35 (by kernel_rfl) rfl #[.int .i64 a0, .int .i64 31] rfl (by (try simp only [List.map_toArray, List.map_cons, List.map_nil]); first | done | rfl | (simp only [List.length_drop, List.length_take]; rfl)) ?_; (with_reducible refine (praxinoscopekit_Pick.calls a0 31 t357 _ A5.out).mono ?_); rintro e w' ⟨rfl, ⟨nd, rfl⟩⟩; refine ⟨_, rfl, ?_⟩))
    go_loopg [8, 9] k (fun kq v8 v9 w' => ∃ (x8_1 : List Int) (x9_1 : Int), v9 = .int .i64 x9_1 ∧ Aside0 (praxinoscopelaw18_GroupLong.l0 kq (wrap64 (1 + t357)) a1 l2 t356 x8_1 x9_1 = some r) ∧ Aside0 (kq ≤ k) ∧ Aside0 (Kd.R (Kd.int .u8) 5 w' w.heap.size (fun _ => True) v8 x8_1) ∧ Aside0 (Below w.heap.size w w'))
    case atStart => exact ⟨(([] : List Int)), (0), (by first | rfl | (simp; done) | (simp [*]; done)), H', ⟨Nat.le_refl _⟩, ⟨by first | exact Kd.R_nil _ _ _ _ _ | exact Kd.N_nil _ _ _ _ _ | exact Kd.V_nil _ _ _ _ _ | exact Kd.Q_nil _ _ _ _ _ | exact Kd.S_nil _ _ _ _ _⟩, ⟨by repeat (first | (with_reducible first | exact HB.out | apply below_alloc | apply pw_below_drewN | apply below_drew1) | exact HB.out)⟩⟩
    case round =>
      clear H'
      try clear c1
      try clear c2
      try clear p2
      try clear c3
      try clear c4
      try clear c6
      try clear c6b0
      try clear c6b1
      try clear p6
      obtain ⟨x8_1, x9_1, rfl, HA, HK1, HO_8, HB⟩ := hrel
      cases gk with
      | zero => exact absurd HA.out (by simp [praxinoscopelaw18_GroupLong.l0])
      | succ k1 =>
        have H := HA.out
        clear HA
        simp only [praxinoscopelaw18_GroupLong.l0] at H
        by_cases c9 : x9_1 < 32
        · rw [if_pos c9] at H
          have c9b0 : decide (x9_1 < 32) = true := decide_eq_true c9
          clear c9
          by_cases c10 : x8_1.length < 140737488355328
          · rw [if_pos c10] at H
            have LMc10 := Aside0.mk c10
            clear c10
            obtain ⟨y358, hy358⟩ : ∃ y_ : List Int, y_ = (x8_1 ++ [(a1 + x9_1) % 256]) := ⟨_, rfl⟩
            replace H : (praxinoscopelaw18_GroupLong.l0 k1 (wrap64 (1 + t357)) a1 l2 t356 y358 (wrap64 (x9_1 + 1))) = some r := by first | (rw [hy358]; with_reducible exact H) | (have H2_ := (Option.bind_some _ _).symm.trans H; rw [hy358]; with_reducible exact H2_) | (have H2_ := (Option.bind_some _ _).symm.trans H; with_reducible exact H2_) | with_reducible exact H | (rw [hy358]; exact H) | exact H
            have Ny358 := Aside0.mk hy358
            clear hy358
            have H' := Aside0.mk H
            clear H
            go_wp2_with (first | ((with_reducible refine gate_builtin (b := .append) (xs := #[.tmp 27, .tmp 32]) rfl ?_); (try (refine gate_guard (by rfl) ?_; dsimp only)); at_builtin; refine Kd.R_append (Kd.int .u8) (w0 := w) w.heap.size rfl (.tmp 27) (.tmp 32) 22 5 (.int .u8 0) 1 rfl Try.underlying22 info5 rfl (by decide) (by omega) u8 x8_1 ((a1 + x9_1) % 256) [.int .u8 ((a1 + x9_1) % 256)] (fun _ => True) (fun _ => False) rfl rfl ?aP (fun _ hk => hk.elim) ?aF ?aO ?aB ?aS ?aL ?_; (case aP => exact rfl); (case aB => exact (by repeat (first | (with_reducible first | exact HB.out | apply below_alloc | apply pw_below_drewN | apply below_drew1) | exact HB.out))); (case aF => exact (fun _ _ => trivial)); (case aO => exact (by (with_reducible repeat (first | apply Kd.R_alloc | apply Kd.R_drewN | apply Kd.R_drew)); exact HO_8.out)); (case aS => exact (below_size (by repeat (first | (with_reducible first | exact HB.out | apply below_alloc | apply pw_below_drewN | apply below_drew1) | exact HB.out)))); (case aL => have := LMc10.out; omega); intro v359 w11 ho hb hg hat; rw [← Ny358.out] at ho; have n0_ := Aside0.mk (hb); have n1_ := Aside0.mk (ho); clear HB; clear HO_8; have HB := n0_; have HO360 := n1_; clear n0_ n1_; clear ho hb hg hat))
            go_roundg k1
            case measure => have := HK1.out; omega
            case rel => exact ⟨(y358), (wrap64 (x9_1 + 1)), (by first | rfl | (simp; done) | (simp [*]; done)), H', ⟨by have := HK1.out; omega⟩, ⟨by (with_reducible repeat (first | apply Kd.R_alloc | apply Kd.R_drewN | apply Kd.R_drew)); exact HO360.out⟩, ⟨by repeat (first | (with_reducible first | exact HB.out | apply below_alloc | apply pw_below_drewN | apply below_drew1) | exact HB.out)⟩⟩
          · rw [if_neg c10] at H
            exact absurd H (by simp)
        · rw [if_neg c9] at H
          have c9b0 : decide (x9_1 < 32) = false := decide_eq_false c9
          clear c9
          replace H := Option.bind_eq_some_iff.mp H
          obtain ⟨⟨t361, t362⟩, A120, H⟩ := H
          replace H : ((praxinoscopekit_CopyBytes.f x8_1).bind fun t363 => (if t363.length < 140737488355328 then ((group_Put.f k1 (wrap64 (1 + t357)) (t363 ++ [a1])).bind fun bt369 => (if t362 = 0 then (if bt369.2 = 2 then ((praxinoscopelaw18_bits.f k1 t361).bind fun t371 => (if t371 = true then (praxinoscopelaw18_GroupLong.j1 k1 (wrap64 (1 + t357)) l2 t356 x8_1 t361 ((t361.size : Int) != 294)) else (praxinoscopelaw18_GroupLong.j1 k1 (wrap64 (1 + t357)) l2 t356 x8_1 t361 true))) else (praxinoscopelaw18_GroupLong.j1 k1 (wrap64 (1 + t357)) l2 t356 x8_1 t361 true)) else (praxinoscopelaw18_GroupLong.j1 k1 (wrap64 (1 + t357)) l2 t356 x8_1 t361 true))) else (none))) = some r := H
          have A12 := Aside0.mk A120
          clear A120
          replace H := Option.bind_eq_some_iff.mp H
          obtain ⟨t363, A130, H⟩ := H
          replace H : (if t363.length < 140737488355328 then ((group_Put.f k1 (wrap64 (1 + t357)) (t363 ++ [a1])).bind fun bt369 => (if t362 = 0 then (if bt369.2 = 2 then ((praxinoscopelaw18_bits.f k1 t361).bind fun t371 => (if t371 = true then (praxinoscopelaw18_GroupLong.j1 k1 (wrap64 (1 + t357)) l2 t356 x8_1 t361 ((t361.size : Int) != 294)) else (praxinoscopelaw18_GroupLong.j1 k1 (wrap64 (1 + t357)) l2 t356 x8_1 t361 true))) else (praxinoscopelaw18_GroupLong.j1 k1 (wrap64 (1 + t357)) l2 t356 x8_1 t361 true)) else (praxinoscopelaw18_GroupLong.j1 k1 (wrap64 (1 + t357)) l2 t356 x8_1 t361 true))) else (none)) = some r := H
          have A13 := Aside0.mk A130
          clear A130
          by_cases c14 : t363.length < 140737488355328
          · rw [if_pos c14] at H
            have LMc14 := Aside0.mk c14
            clear c14
            obtain ⟨y366, hy366⟩ : ∃ y_ : List Int, y_ = (t363 ++ [a1]) := ⟨_, rfl⟩
            replace H : ((group_Put.f k1 (wrap64 (1 + t357)) y366).bind fun bt369 => (if t362 = 0 then (if bt369.2 = 2 then ((praxinoscopelaw18_bits.f k1 t361).bind fun t371 => (if t371 = true then (praxinoscopelaw18_GroupLong.j1 k1 (wrap64 (1 + t357)) l2 t356 x8_1 t361 ((t361.size : Int) != 294)) else (praxinoscopelaw18_GroupLong.j1 k1 (wrap64 (1 + t357)) l2 t356 x8_1 t361 true))) else (praxinoscopelaw18_GroupLong.j1 k1 (wrap64 (1 + t357)) l2 t356 x8_1 t361 true)) else (praxinoscopelaw18_GroupLong.j1 k1 (wrap64 (1 + t357)) l2 t356 x8_1 t361 true))) = some r := by first | (rw [hy366]; with_reducible exact H) | (have H2_ := (Option.bind_some _ _).symm.trans H; rw [hy366]; with_reducible exact H2_) | (have H2_ := (Option.bind_some _ _).symm.trans H; with_reducible exact H2_) | with_reducible exact H | (rw [hy366]; exact H) | exact H
            have Ny366 := Aside0.mk hy366
            clear hy366
            replace H := Option.bind_eq_some_iff.mp H
            obtain ⟨⟨t369, t370⟩, A150, H⟩ := H
            replace H : (if t362 = 0 then (if t370 = 2 then ((praxinoscopelaw18_bits.f k1 t361).bind fun t371 => (if t371 = true then (praxinoscopelaw18_GroupLong.j1 k1 (wrap64 (1 + t357)) l2 t356 x8_1 t361 ((t361.size : Int) != 294)) else (praxinoscopelaw18_GroupLong.j1 k1 (wrap64 (1 + t357)) l2 t356 x8_1 t361 true))) else (praxinoscopelaw18_GroupLong.j1 k1 (wrap64 (1 + t357)) l2 t356 x8_1 t361 true)) else (praxinoscopelaw18_GroupLong.j1 k1 (wrap64 (1 + t357)) l2 t356 x8_1 t361 true)) = some r := H
            have A15 := Aside0.mk A150
            clear A150
            have HC16 := Aside0.mk H
            clear H
            obtain ⟨Ao17, co17, eo17⟩ := Kd.R_slice HO_8.out
            subst eo17
            go_upto_region 12 with (first | ((with_reducible refine gate_callee (f := 37) rfl ?_); refine goesL_ (some 37) rfl rfl Try.func37 (by kernel_rfl) rfl #[.int .i64 (wrap64 (1 + t357)), .slice Ao17 x8_1.length co17] rfl (by (try simp only [List.map_toArray, List.map_cons, List.map_nil]); first | done | rfl | (simp only [List.length_drop, List.length_take]; rfl)) ?_; (with_reducible refine (group_Put.calls k1 (wrap64 (1 + t357)) _ _ x8_1 t361 t362 _ ?side1 ?side2 A12.out).mono ?_); (case side1 => repeat (first | exact (Kd.R_reads' HO_8.out).2.2 | (with_reducible refine Kd.C_alloc ?_ _) | (with_reducible refine Kd.C_drewN ?_ _) | (with_reducible refine Kd.C_drew ?_))); (case side2 => exact (Kd.R_reads' HO_8.out).2.1); rintro e w18 ⟨rfl, hb⟩; refine ⟨_, rfl, ?_⟩; have n0_ := Aside0.mk (Kd.R_below (by (with_reducible repeat (first | apply Kd.R_alloc | apply Kd.R_drewN | apply Kd.R_drew)); exact HO_8.out) hb); have n1_ := Aside0.mk (below_step (by repeat (first | (with_reducible first | exact HB.out | apply below_alloc | apply pw_below_drewN | apply below_drew1) | exact HB.out)) hb); clear HO_8; clear HB; have HO_8 := n0_; have HB := n1_; clear n0_ n1_; (try clear hb); (try clear hb2); (try clear hk); (try clear hi)) | ((with_reducible refine gate_callee (f := 54) rfl ?_); refine goesL_ (some 43) rfl rfl Try.func54 (by kernel_rfl) rfl #[.slice Ao17 x8_1.length co17] rfl (by (try simp only [List.map_toArray, List.map_cons, List.map_nil]); first | done | rfl | (simp only [List.length_drop, List.length_take]; rfl)) ?_; (with_reducible refine (praxinoscopekit_CopyBytes.calls _ _ x8_1 t363 _ ?side1 ?side2 A13.out).mono ?_); (case side1 => repeat (first | exact (Kd.R_reads' HO_8.out).2.2 | (with_reducible refine Kd.C_alloc ?_ _) | (with_reducible refine Kd.C_drewN ?_ _) | (with_reducible refine Kd.C_drew ?_))); (case side2 => exact (Kd.R_reads' HO_8.out).2.1); rintro e w19 ⟨v364, rfl, ho0, hb⟩; refine ⟨_, rfl, ?_⟩; have n0_ := Aside0.mk (Kd.R_elder' (by (with_reducible repeat (first | apply Kd.R_alloc | apply Kd.R_drewN | apply Kd.R_drew)); exact HO_8.out) (Kd.R_base ho0) hb); have n1_ := Aside0.mk (Kd.R_lower (Kd.R_new' ho0 (Kd.R_lt (by (with_reducible repeat (first | apply Kd.R_alloc | apply Kd.R_drewN | apply Kd.R_drew)); exact HO_8.out))) (below_size (by repeat (first | (with_reducible first | exact HB.out | apply below_alloc | apply pw_below_drewN | apply below_drew1) | exact HB.out)))); have n2_ := Aside0.mk (below_step (by repeat (first | (with_reducible first | exact HB.out | apply below_alloc | apply pw_below_drewN | apply below_drew1) | exact HB.out)) hb); clear HO_8; clear HB; have HO_8 := n0_; have HO365 := n1_; have HB := n2_; clear n0_ n1_ n2_; (try clear hb); (try clear hb2); (try clear hk); (try clear hi); (try clear ho0)) | ((with_reducible refine gate_builtin (b := .append) (xs := #[.tmp 43, .tmp 45]) rfl ?_); (try (refine gate_guard (by rfl) ?_; dsimp only)); at_builtin; refine Kd.R_append (Kd.int .u8) (w0 := w) w.heap.size rfl (.tmp 43) (.tmp 45) 22 5 (.int .u8 0) 1 rfl Try.underlying22 info5 rfl (by decide) (by omega) v364 t363 a1 [.int .u8 a1] (fun k_ => some k_ ≠ (.slice Ao17 x8_1.length co17 : Value).ownBlock) (fun _ => False) rfl rfl ?aP (fun _ hk => hk.elim) ?aF ?aO ?aB ?aS ?aL ?_; (case aP => exact rfl); (case aB => exact (by repeat (first | (with_reducible first | exact HB.out | apply below_alloc | apply pw_below_drewN | apply below_drew1) | exact HB.out))); (case aF => exact (fun k_ hk => Kd.fresh' (Kd.R_lt (by (with_reducible repeat (first | apply Kd.R_alloc | apply Kd.R_drewN | apply Kd.R_drew)); exact HO_8.out)) k_ hk)); (case aO => exact (by (with_reducible repeat (first | apply Kd.R_alloc | apply Kd.R_drewN | apply Kd.R_drew)); exact Kd.R_mono HO365.out (fun _ hk => hk.2))); (case aS => exact (below_size (by repeat (first | (with_reducible first | exact HB.out | apply below_alloc | apply pw_below_drewN | apply below_drew1) | exact HB.out)))); (case aL => have := LMc14.out; omega); intro v367 w20 ho hb hg hat; rw [← Ny366.out] at ho; have n0_ := Aside0.mk (Kd.R_after (ok := (fun _ => True)) (by (with_reducible repeat (first | apply Kd.R_alloc | apply Kd.R_drewN | apply Kd.R_drew)); exact HO_8.out) hg hat); have n1_ := Aside0.mk (hb); have n2_ := Aside0.mk (ho); clear HO_8; clear HB; clear HO365; have HO_8 := n0_; have HB := n1_; have HO368 := n2_; clear n0_ n1_ n2_; clear ho hb hg hat; obtain ⟨Ao21, co21, eo21⟩ := Kd.R_slice HO368.out; subst eo21) | ((with_reducible refine gate_callee (f := 37) rfl ?_); refine goesL_ (some 47) rfl rfl Try.func37 (by kernel_rfl) rfl #[.int .i64 (wrap64 (1 + t357)), .slice Ao21 y366.length co21] rfl (by (try simp only [List.map_toArray, List.map_cons, List.map_nil]); first | done | rfl | (simp only [List.length_drop, List.length_take]; rfl)) ?_; (with_reducible refine (group_Put.calls k1 (wrap64 (1 + t357)) _ _ y366 t369 t370 _ ?side1 ?side2 A15.out).mono ?_); (case side1 => repeat (first | exact (Kd.R_reads' HO368.out).2.2 | (with_reducible refine Kd.C_alloc ?_ _) | (with_reducible refine Kd.C_drewN ?_ _) | (with_reducible refine Kd.C_drew ?_))); (case side2 => exact (Kd.R_reads' HO368.out).2.1); rintro e w22 ⟨rfl, hb⟩; refine ⟨_, rfl, ?_⟩; have n0_ := Aside0.mk (Kd.R_below (by (with_reducible repeat (first | apply Kd.R_alloc | apply Kd.R_drewN | apply Kd.R_drew)); exact HO_8.out) hb); have n1_ := Aside0.mk (Kd.R_below (by (with_reducible repeat (first | apply Kd.R_alloc | apply Kd.R_drewN | apply Kd.R_drew)); exact HO368.out) hb); have n2_ := Aside0.mk (below_step (by repeat (first | (with_reducible first | exact HB.out | apply below_alloc | apply pw_below_drewN | apply below_drew1) | exact HB.out)) hb); clear HO_8; clear HO368; clear HB; have HO_8 := n0_; have HO368 := n1_; have HB := n2_; clear n0_ n1_ n2_; (try clear hb); (try clear hb2); (try clear hk); (try clear hi)))
            (try simp only [Act.put, List.setIfInBounds_toArray, List.set_cons_zero, List.set_cons_succ])
            go_cut [65] (fun v65 wc => ∃ (kq : Nat) (x65_15 : Bool), v65 = .bool x65_15 ∧ Aside0 (praxinoscopelaw18_GroupLong.j1 kq (wrap64 (1 + t357)) l2 t356 x8_1 t361 x65_15 = some r) ∧ Aside0 (kq ≤ k1) ∧ Aside0 (Kd.R (Kd.int .u8) 5 wc w.heap.size (fun _ => True) (.slice Ao17 x8_1.length co17) x8_1) ∧ Aside0 (Below w.heap.size w wc))
            case first =>
              have H := HC16.out
              clear HC16
              by_cases c23 : t362 = 0
              · rw [if_pos c23] at H
                have c23b0 : (t362 == 0) = true := beq_iff_eq.mpr c23
                have c23b1 : (t362 != 0) = false := bne_eq_false_iff_eq.mpr c23
                clear c23
                (first | rw [c23b0] | (simp only [i64_w, i32_w]; rw [c23b0]) | skip)
                by_cases c24 : t370 = 2
                · rw [if_pos c24] at H
                  have c24b0 : (t370 == 2) = true := beq_iff_eq.mpr c24
                  have c24b1 : (t370 != 2) = false := bne_eq_false_iff_eq.mpr c24
                  clear c24
                  replace H := Option.bind_eq_some_iff.mp H
                  obtain ⟨t371, A250, H⟩ := H
                  replace H : (if t371 = true then (praxinoscopelaw18_GroupLong.j1 k1 (wrap64 (1 + t357)) l2 t356 x8_1 t361 ((t361.size : Int) != 294)) else (praxinoscopelaw18_GroupLong.j1 k1 (wrap64 (1 + t357)) l2 t356 x8_1 t361 true)) = some r := H
                  have A25 := Aside0.mk A250
                  clear A250
                  by_cases c26 : t371 = true
                  · subst c26
                    have H1 : (praxinoscopelaw18_GroupLong.j1 k1 (wrap64 (1 + t357)) l2 t356 x8_1 t361 ((t361.size : Int) != 294)) = some r := by rw [if_pos rfl] at H; exact H
                    clear H
                    have H := H1
                    clear H1
                    have H' := Aside0.mk H
                    clear H
                    go_wp2_with (first | (go_at_call 39; (with_reducible refine (praxinoscopelaw18_bits.calls k1 t361 true _ A25.out).mono ?_); rintro e w' ⟨rfl, ⟨nd, rfl⟩⟩))
                    go_meet
                    case rel => exact ⟨_, (((t361.size : Int) != 294)), (by first | rfl | (simp; done) | (simp [*]; done)), H', ⟨by have := HK1.out; first | omega | exact Nat.le_refl _⟩, ⟨by (with_reducible repeat (first | apply Kd.R_alloc | apply Kd.R_drewN | apply Kd.R_drew)); exact Kd.R_mono HO_8.out (fun _ hk => trivial)⟩, ⟨by repeat (first | (with_reducible first | exact HB.out | apply below_alloc | apply pw_below_drewN | apply below_drew1) | exact HB.out)⟩⟩
                  · replace c26 := Bool.eq_false_iff.mpr c26
                    subst c26
                    have H1 : (praxinoscopelaw18_GroupLong.j1 k1 (wrap64 (1 + t357)) l2 t356 x8_1 t361 true) = some r := by rw [if_neg (show ¬ (false = true) by decide)] at H; exact H
                    clear H
                    have H := H1
                    clear H1
                    have H' := Aside0.mk H
                    clear H
                    go_wp2_with (first | (go_at_call 39; (with_reducible refine (praxinoscopelaw18_bits.calls k1 t361 false _ A25.out).mono ?_); rintro e w' ⟨rfl, ⟨nd, rfl⟩⟩))
                    go_meet
                    case rel => exact ⟨_, (true), (by first | rfl | (simp; done) | (simp [*]; done)), H', ⟨by have := HK1.out; first | omega | exact Nat.le_refl _⟩, ⟨by (with_reducible repeat (first | apply Kd.R_alloc | apply Kd.R_drewN | apply Kd.R_drew)); exact Kd.R_mono HO_8.out (fun _ hk => trivial)⟩, ⟨by repeat (first | (with_reducible first | exact HB.out | apply below_alloc | apply pw_below_drewN | apply below_drew1) | exact HB.out)⟩⟩
                · rw [if_neg c24] at H
                  have c24b0 : (t370 == 2) = false := beq_eq_false_iff_ne.mpr c24
                  have c24b1 : (t370 != 2) = true := bne_iff_ne.mpr c24
                  have H' := Aside0.mk H
                  clear H
                  go_wp2
                  go_meet
                  case rel => exact ⟨_, (true), (by first | rfl | (simp; done) | (simp [*]; done)), H', ⟨by have := HK1.out; first | omega | exact Nat.le_refl _⟩, ⟨by (with_reducible repeat (first | apply Kd.R_alloc | apply Kd.R_drewN | apply Kd.R_drew)); exact Kd.R_mono HO_8.out (fun _ hk => trivial)⟩, ⟨by repeat (first | (with_reducible first | exact HB.out | apply below_alloc | apply pw_below_drewN | apply below_drew1) | exact HB.out)⟩⟩
              · rw [if_neg c23] at H
                have c23b0 : (t362 == 0) = false := beq_eq_false_iff_ne.mpr c23
                have c23b1 : (t362 != 0) = true := bne_iff_ne.mpr c23
                (first | rw [c23b0] | (simp only [i64_w, i32_w]; rw [c23b0]) | skip)
                have H' := Aside0.mk H
                clear H
                go_wp2
                go_meet
                case rel => exact ⟨_, (true), (by first | rfl | (simp; done) | (simp [*]; done)), H', ⟨by have := HK1.out; first | omega | exact Nat.le_refl _⟩, ⟨by (with_reducible repeat (first | apply Kd.R_alloc | apply Kd.R_drewN | apply Kd.R_drew)); exact Kd.R_mono HO_8.out (fun _ hk => trivial)⟩, ⟨by repeat (first | (with_reducible first | exact HB.out | apply below_alloc | apply pw_below_drewN | apply below_drew1) | exact HB.out)⟩⟩
            case rest =>
              clear HC16
              try clear c1
              try clear c2
              try clear p2
              try clear c3
              try clear c4
              try clear c5
              try clear c6
              try clear c6b0
              try clear c6b1
              try clear p6
              try clear c9
              try clear c9b0
              try clear c10
              try clear c11
              try clear c14
              try clear c23
              try clear c23b0
              try clear c23b1
              try clear c24
              try clear c24b0
              try clear c24b1
              try clear c26
              try clear p2
              try clear p6
              obtain ⟨kq, x65_15, rfl, HA, HJ15, HO_8, HB⟩ := hcut
              cases kq with
              | zero => exact absurd HA.out (by simp [praxinoscopelaw18_GroupLong.j1])
              | succ kj15 =>
                have H := HA.out
                clear HA
                simp only [praxinoscopelaw18_GroupLong.j1] at H
                by_cases c27 : x65_15 = true
                · subst c27
                  have H1 : (some false) = some r := by rw [if_pos rfl] at H; exact H
                  clear H
                  have H := H1
                  clear H1
                  obtain rfl := Option.some.inj H
                  go_wp2
                  go_ret
                  exact ⟨by first | rfl | (simp [errW_none, errW_some] <;> rfl) | (simp [*, errW_none, errW_some] <;> rfl), by repeat (first | (with_reducible first | exact HB.out | apply below_alloc | apply pw_below_drewN | apply below_drew1) | exact HB.out)⟩
                · replace c27 := Bool.eq_false_iff.mpr c27
                  subst c27
                  have H1 : (if 0 ≤ 293 then (if 293 ≤ (t361.size : Int) then (if (t361.extract 0 293).size + 1 ≤ 9223372036854775807 then (if t356 = true then ((praxinoscopelaw18_bytes.f kj15 0 t361 l2).bind fun t372 => ((praxinoscopelaw18_gets.f kj15 t372 (wrap64 (1 + t357)) x8_1 294 0).bind fun t375 => (if t375 = true then ((praxinoscopelaw18_bytes.f kj15 0 ((t361.extract 0 293) ++ (⟨#[49]⟩ : ByteArray)) l2).bind fun t376 => ((praxinoscopelaw18_gets.f kj15 t376 0 ([] : List Int) 0 4).bind fun t379 => (some t379))) else (some false)))) else (some false)) else (none)) else (none)) else (none)) = some r := by rw [if_neg (show ¬ (false = true) by decide)] at H; exact H
                  clear H
                  have H := H1
                  clear H1
                  by_cases c28 : 0 ≤ 293
                  · rw [if_pos c28] at H
                    have c28b0 := eq_true c28
                    have c28b1 : decide (0 ≤ 293) = true := decide_eq_true c28
                    clear c28
                    by_cases c29 : 293 ≤ (t361.size : Int)
                    · rw [if_pos c29] at H
                      have c29b0 := eq_true c29
                      have c29b1 : decide (293 ≤ (t361.size : Int)) = true := decide_eq_true c29
                      clear c29
                      by_cases c30 : (t361.extract 0 293).size + 1 ≤ 9223372036854775807
                      · rw [if_pos c30] at H
                        have c30b0 := eq_true c30
                        have c30b1 : decide ((t361.extract 0 293).size + 1 ≤ 9223372036854775807) = true := decide_eq_true c30
                        try have c30b2 : (9223372036854775807 < (t361.extract 0 293).size + 1) = False := eq_false (Nat.not_lt.2 c30)
                        try (have c30b3 := c30; simp only [ByteArray.size_append, PrX.size_lit1, PrX.size_lit4] at c30b3)
                        try have c30b4 := eq_false (Nat.not_lt.2 c30b3)
                        by_cases c31 : t356 = true
                        · subst c31
                          have H1 : ((praxinoscopelaw18_bytes.f kj15 0 t361 l2).bind fun t372 => ((praxinoscopelaw18_gets.f kj15 t372 (wrap64 (1 + t357)) x8_1 294 0).bind fun t375 => (if t375 = true then ((praxinoscopelaw18_bytes.f kj15 0 ((t361.extract 0 293) ++ (⟨#[49]⟩ : ByteArray)) l2).bind fun t376 => ((praxinoscopelaw18_gets.f kj15 t376 0 ([] : List Int) 0 4).bind fun t379 => (some t379))) else (some false)))) = some r := by rw [if_pos rfl] at H; exact H
                          clear H
                          have H := H1
                          clear H1
                          replace H := Option.bind_eq_some_iff.mp H
                          obtain ⟨t372, A320, H⟩ := H
                          replace H : ((praxinoscopelaw18_gets.f kj15 t372 (wrap64 (1 + t357)) x8_1 294 0).bind fun t375 => (if t375 = true then ((praxinoscopelaw18_bytes.f kj15 0 ((t361.extract 0 293) ++ (⟨#[49]⟩ : ByteArray)) l2).bind fun t376 => ((praxinoscopelaw18_gets.f kj15 t376 0 ([] : List Int) 0 4).bind fun t379 => (some t379))) else (some false))) = some r := H
                          have A32 := Aside0.mk A320
                          clear A320
                          replace H := Option.bind_eq_some_iff.mp H
                          obtain ⟨t375, A330, H⟩ := H
                          replace H : (if t375 = true then ((praxinoscopelaw18_bytes.f kj15 0 ((t361.extract 0 293) ++ (⟨#[49]⟩ : ByteArray)) l2).bind fun t376 => ((praxinoscopelaw18_gets.f kj15 t376 0 ([] : List Int) 0 4).bind fun t379 => (some t379))) else (some false)) = some r := H
                          have A33 := Aside0.mk A330
                          clear A330
                          by_cases c34 : t375 = true
                          · subst c34
                            have H1 : ((praxinoscopelaw18_bytes.f kj15 0 ((t361.extract 0 293) ++ (⟨#[49]⟩ : ByteArray)) l2).bind fun t376 => ((praxinoscopelaw18_gets.f kj15 t376 0 ([] : List Int) 0 4).bind fun t379 => (some t379))) = some r := by rw [if_pos rfl] at H; exact H
                            clear H
                            have H := H1
                            clear H1
                            replace H := Option.bind_eq_some_iff.mp H
                            obtain ⟨t376, A350, H⟩ := H
                            replace H : ((praxinoscopelaw18_gets.f kj15 t376 0 ([] : List Int) 0 4).bind fun t379 => (some t379)) = some r := H
                            have A35 := Aside0.mk A350
                            clear A350
                            replace H := Option.bind_eq_some_iff.mp H
                            obtain ⟨t379, A360, H⟩ := H
                            replace H : (some t379) = some r := H
                            have A36 := Aside0.mk A360
                            clear A360
                            obtain rfl := Option.some.inj H
                            go_wp2_with (first | (go_at_call 41; (with_reducible refine (praxinoscopelaw18_bytes.calls kj15 0 t361 _ _ l2 t372 _ ?side1 ?side2 A32.out).mono ?_); (case side1 => repeat (first | exact (Kd.C_below HR2.out HB.out) | (with_reducible refine Kd.C_alloc ?_ _) | (with_reducible refine Kd.C_drewN ?_ _) | (with_reducible refine Kd.C_drew ?_))); (case side2 => exact HC2.out); rintro e w37 ⟨v373, rfl, ho0, hb⟩; have n0_ := Aside0.mk (Kd.R_elder' (by (with_reducible repeat (first | apply Kd.R_alloc | apply Kd.R_drewN | apply Kd.R_drew)); exact HO_8.out) (Kd.R_base ho0) hb); have n1_ := Aside0.mk (Kd.R_lower (Kd.R_new' ho0 (Kd.R_lt (by (with_reducible repeat (first | apply Kd.R_alloc | apply Kd.R_drewN | apply Kd.R_drew)); exact HO_8.out))) (below_size (by repeat (first | (with_reducible first | exact HB.out | apply below_alloc | apply pw_below_drewN | apply below_drew1) | exact HB.out)))); have n2_ := Aside0.mk (below_step (by repeat (first | (with_reducible first | exact HB.out | apply below_alloc | apply pw_below_drewN | apply below_drew1) | exact HB.out)) hb); clear HO_8; clear HB; have HO_8 := n0_; have HO374 := n1_; have HB := n2_; clear n0_ n1_ n2_; (try clear hb); (try clear hb2); (try clear hk); (try clear hi); (try clear ho0); obtain ⟨Ao38, co38, eo38⟩ := Kd.R_slice HO374.out; subst eo38) | (go_at_call 40; (with_reducible refine (praxinoscopelaw18_gets.calls kj15 _ _ t372 (wrap64 (1 + t357)) _ _ x8_1 294 0 true _ ?side1 ?side2 ?side3 ?side4 A33.out).mono ?_); (case side1 => repeat (first | exact (Kd.R_reads' HO374.out).2.2 | (with_reducible refine Kd.C_alloc ?_ _) | (with_reducible refine Kd.C_drewN ?_ _) | (with_reducible refine Kd.C_drew ?_))); (case side2 => exact (Kd.R_reads' HO374.out).2.1); (case side3 => repeat (first | exact (Kd.R_reads' HO_8.out).2.2 | (with_reducible refine Kd.C_alloc ?_ _) | (with_reducible refine Kd.C_drewN ?_ _) | (with_reducible refine Kd.C_drew ?_))); (case side4 => exact (Kd.R_reads' HO_8.out).2.1); rintro e w39 ⟨rfl, hb⟩; have n0_ := Aside0.mk (Kd.R_below (by (with_reducible repeat (first | apply Kd.R_alloc | apply Kd.R_drewN | apply Kd.R_drew)); exact HO_8.out) hb); have n1_ := Aside0.mk (Kd.R_below (by (with_reducible repeat (first | apply Kd.R_alloc | apply Kd.R_drewN | apply Kd.R_drew)); exact HO374.out) hb); have n2_ := Aside0.mk (below_step (by repeat (first | (with_reducible first | exact HB.out | apply below_alloc | apply pw_below_drewN | apply below_drew1) | exact HB.out)) hb); clear HO_8; clear HO374; clear HB; have HO_8 := n0_; have HO374 := n1_; have HB := n2_; clear n0_ n1_ n2_; (try clear hb); (try clear hb2); (try clear hk); (try clear hi)) | (go_at_call 41; (with_reducible refine (praxinoscopelaw18_bytes.calls kj15 0 ((t361.extract 0 293) ++ (⟨#[49]⟩ : ByteArray)) _ _ l2 t376 _ ?side1 ?side2 A35.out).mono ?_); (case side1 => repeat (first | exact (Kd.C_below HR2.out HB.out) | (with_reducible refine Kd.C_alloc ?_ _) | (with_reducible refine Kd.C_drewN ?_ _) | (with_reducible refine Kd.C_drew ?_))); (case side2 => exact HC2.out); rintro e w40 ⟨v377, rfl, ho0, hb⟩; have n0_ := Aside0.mk (Kd.R_elder' (by (with_reducible repeat (first | apply Kd.R_alloc | apply Kd.R_drewN | apply Kd.R_drew)); exact HO_8.out) (Kd.R_base ho0) hb); have n1_ := Aside0.mk (Kd.R_elder' (by (with_reducible repeat (first | apply Kd.R_alloc | apply Kd.R_drewN | apply Kd.R_drew)); exact HO374.out) (Kd.R_base ho0) hb); have n2_ := Aside0.mk (Kd.R_lower (Kd.R_new' (Kd.R_new' ho0 (Kd.R_lt (by (with_reducible repeat (first | apply Kd.R_alloc | apply Kd.R_drewN | apply Kd.R_drew)); exact HO_8.out))) (Kd.R_lt (by (with_reducible repeat (first | apply Kd.R_alloc | apply Kd.R_drewN | apply Kd.R_drew)); exact HO374.out))) (below_size (by repeat (first | (with_reducible first | exact HB.out | apply below_alloc | apply pw_below_drewN | apply below_drew1) | exact HB.out)))); have n3_ := Aside0.mk (below_step (by repeat (first | (with_reducible first | exact HB.out | apply below_alloc | apply pw_below_drewN | apply below_drew1) | exact HB.out)) hb); clear HO_8; clear HO374; clear HB; have HO_8 := n0_; have HO374 := n1_; have HO378 := n2_; have HB := n3_; clear n0_ n1_ n2_ n3_; (try clear hb); (try clear hb2); (try clear hk); (try clear hi); (try clear ho0); obtain ⟨Ao41, co41, eo41⟩ := Kd.R_slice HO378.out; subst eo41) | (go_at_call 40; refine calls_of_args (args' := #[.slice Ao41 t376.length co41, .int .i64 0, .slice none (List.length ([] : List Int)) 0, .int .i64 0, .int .i64 4]) (by rfl) ?_; (with_reducible refine (praxinoscopelaw18_gets.calls kj15 _ _ t376 0 _ _ ([] : List Int) 0 4 t379 _ ?side1 ?side2 ?side3 ?side4 A36.out).mono ?_); (case side1 => repeat (first | exact (Kd.R_reads' HO378.out).2.2 | (with_reducible refine Kd.C_alloc ?_ _) | (with_reducible refine Kd.C_drewN ?_ _) | (with_reducible refine Kd.C_drew ?_))); (case side2 => exact (Kd.R_reads' HO378.out).2.1); (case side3 => exact Kd.C_nil _ _); (case side4 => exact Nat.le_refl _); rintro e w42 ⟨rfl, hb⟩; have n0_ := Aside0.mk (Kd.R_below (by (with_reducible repeat (first | apply Kd.R_alloc | apply Kd.R_drewN | apply Kd.R_drew)); exact HO_8.out) hb); have n1_ := Aside0.mk (Kd.R_below (by (with_reducible repeat (first | apply Kd.R_alloc | apply Kd.R_drewN | apply Kd.R_drew)); exact HO374.out) hb); have n2_ := Aside0.mk (Kd.R_below (by (with_reducible repeat (first | apply Kd.R_alloc | apply Kd.R_drewN | apply Kd.R_drew)); exact HO378.out) hb); have n3_ := Aside0.mk (below_step (by repeat (first | (with_reducible first | exact HB.out | apply below_alloc | apply pw_below_drewN | apply below_drew1) | exact HB.out)) hb); clear HO_8; clear HO374; clear HO378; clear HB; have HO_8 := n0_; have HO374 := n1_; have HO378 := n2_; have HB := n3_; clear n0_ n1_ n2_ n3_; (try clear hb); (try clear hb2); (try clear hk); (try clear hi)))
                            go_ret
                            exact ⟨by first | rfl | (simp [errW_none, errW_some] <;> rfl) | (simp [*, errW_none, errW_some] <;> rfl), by repeat (first | (with_reducible first | exact HB.out | apply below_alloc | apply pw_below_drewN | apply below_drew1) | exact HB.out)⟩
                          · replace c34 := Bool.eq_false_iff.mpr c34
                            subst c34
                            have H1 : (some false) = some r := by rw [if_neg (show ¬ (false = true) by decide)] at H; exact H
                            clear H
                            have H := H1
                            clear H1
                            obtain rfl := Option.some.inj H
                            go_wp2_with (first | (go_at_call 41; (with_reducible refine (praxinoscopelaw18_bytes.calls kj15 0 t361 _ _ l2 t372 _ ?side1 ?side2 A32.out).mono ?_); (case side1 => repeat (first | exact (Kd.C_below HR2.out HB.out) | (with_reducible refine Kd.C_alloc ?_ _) | (with_reducible refine Kd.C_drewN ?_ _) | (with_reducible refine Kd.C_drew ?_))); (case side2 => exact HC2.out); rintro e w43 ⟨v373, rfl, ho0, hb⟩; have n0_ := Aside0.mk (Kd.R_elder' (by (with_reducible repeat (first | apply Kd.R_alloc | apply Kd.R_drewN | apply Kd.R_drew)); exact HO_8.out) (Kd.R_base ho0) hb); have n1_ := Aside0.mk (Kd.R_lower (Kd.R_new' ho0 (Kd.R_lt (by (with_reducible repeat (first | apply Kd.R_alloc | apply Kd.R_drewN | apply Kd.R_drew)); exact HO_8.out))) (below_size (by repeat (first | (with_reducible first | exact HB.out | apply below_alloc | apply pw_below_drewN | apply below_drew1) | exact HB.out)))); have n2_ := Aside0.mk (below_step (by repeat (first | (with_reducible first | exact HB.out | apply below_alloc | apply pw_below_drewN | apply below_drew1) | exact HB.out)) hb); clear HO_8; clear HB; have HO_8 := n0_; have HO374 := n1_; have HB := n2_; clear n0_ n1_ n2_; (try clear hb); (try clear hb2); (try clear hk); (try clear hi); (try clear ho0); obtain ⟨Ao44, co44, eo44⟩ := Kd.R_slice HO374.out; subst eo44) | (go_at_call 40; (with_reducible refine (praxinoscopelaw18_gets.calls kj15 _ _ t372 (wrap64 (1 + t357)) _ _ x8_1 294 0 false _ ?side1 ?side2 ?side3 ?side4 A33.out).mono ?_); (case side1 => repeat (first | exact (Kd.R_reads' HO374.out).2.2 | (with_reducible refine Kd.C_alloc ?_ _) | (with_reducible refine Kd.C_drewN ?_ _) | (with_reducible refine Kd.C_drew ?_))); (case side2 => exact (Kd.R_reads' HO374.out).2.1); (case side3 => repeat (first | exact (Kd.R_reads' HO_8.out).2.2 | (with_reducible refine Kd.C_alloc ?_ _) | (with_reducible refine Kd.C_drewN ?_ _) | (with_reducible refine Kd.C_drew ?_))); (case side4 => exact (Kd.R_reads' HO_8.out).2.1); rintro e w45 ⟨rfl, hb⟩; have n0_ := Aside0.mk (Kd.R_below (by (with_reducible repeat (first | apply Kd.R_alloc | apply Kd.R_drewN | apply Kd.R_drew)); exact HO_8.out) hb); have n1_ := Aside0.mk (Kd.R_below (by (with_reducible repeat (first | apply Kd.R_alloc | apply Kd.R_drewN | apply Kd.R_drew)); exact HO374.out) hb); have n2_ := Aside0.mk (below_step (by repeat (first | (with_reducible first | exact HB.out | apply below_alloc | apply pw_below_drewN | apply below_drew1) | exact HB.out)) hb); clear HO_8; clear HO374; clear HB; have HO_8 := n0_; have HO374 := n1_; have HB := n2_; clear n0_ n1_ n2_; (try clear hb); (try clear hb2); (try clear hk); (try clear hi)))
                            go_ret
                            exact ⟨by first | rfl | (simp [errW_none, errW_some] <;> rfl) | (simp [*, errW_none, errW_some] <;> rfl), by repeat (first | (with_reducible first | exact HB.out | apply below_alloc | apply pw_below_drewN | apply below_drew1) | exact HB.out)⟩
                        · replace c31 := Bool.eq_false_iff.mpr c31
                          subst c31
                          have H1 : (some false) = some r := by rw [if_neg (show ¬ (false = true) by decide)] at H; exact H
                          clear H
                          have H := H1
                          clear H1
                          obtain rfl := Option.some.inj H
                          go_wp2
                          go_ret
                          exact ⟨by first | rfl | (simp [errW_none, errW_some] <;> rfl) | (simp [*, errW_none, errW_some] <;> rfl), by repeat (first | (with_reducible first | exact HB.out | apply below_alloc | apply pw_below_drewN | apply below_drew1) | exact HB.out)⟩
                      · rw [if_neg c30] at H
                        exact absurd H (by simp)
                    · rw [if_neg c29] at H
                      exact absurd H (by simp)
                  · rw [if_neg c28] at H
                    exact absurd H (by simp)
          · rw [if_neg c14] at H
            exact absurd H (by simp)

/-- THE ONE PURE STATEMENT of praxinoscopelaw18_GroupLong: yours. -/
def praxinoscopelaw18_GroupLong.Pure : Prop := ∀ (a0 : Int) (a1 : Int) (l2 : List Int), (Lit.int .i64 a0).wf = true → (Lit.int .u8 a1).wf = true → l2.length ≤ maxLen → l2.length * 8 ≤ 140737488351232 → (∀ x ∈ l2, (Lit.int .i64 x).wf = true) → ∃ k, praxinoscopelaw18_GroupLong.f k a0 a1 l2 = some true
theorem praxinoscopelaw18_GroupLong.walk (P : praxinoscopelaw18_GroupLong.Pure) (a0 : Int) (a1 : Int) (a2 : Option Addr) (len2 cap2 : Nat) (z2 : List Int) (w : World) (w0 : (Lit.int .i64 a0).wf = true) (w1 : (Lit.int .u8 a1).wf = true) (w2 : (a2 = none ∧ len2 = 0 ∧ cap2 = 0 ∧ z2 = []) ∨ ∃ x, a2 = some x ∧ len2 ≤ cap2 ∧ cap2 ≤ maxLen ∧ z2.length = cap2 ∧ (∀ i, i < z2.length → w.cell? (x.add i) = some (.int .i64 (z2.getD i 0))) ∧ ∀ n ∈ z2, (Lit.int .i64 n).wf = true) (y2 : len2 * 8 ≤ 140737488351232) :
    Calls Try.prog 11 #[.int .i64 a0, .int .u8 a1, .slice a2 len2 cap2] w fun e w' => e = .returned (.bool true) ∧ Below w.heap.size w w' := by
  obtain ⟨l2, rfl, hr2, hm2, hw2, hc2⟩ := ReadsInt.ofRowC w2
  obtain ⟨k, h⟩ := P a0 a1 l2 w0 w1 hm2 y2 hw2
  refine (praxinoscopelaw18_GroupLong.calls k a0 a1 _ _ l2 true w (Kd.C_of_reads (d := (0 : Int)) (h1 := fun _ => rfl) hr2) hc2 h).mono ?_
  rintro e w' ⟨rfl, hd⟩
  exact ⟨rfl, hd⟩






-- NOT PRINTED: function 18 (praxinoscopelaw18_GroupPuts)

end Go.Proofs.Ytjbpcffmeaadeaa.Pr
