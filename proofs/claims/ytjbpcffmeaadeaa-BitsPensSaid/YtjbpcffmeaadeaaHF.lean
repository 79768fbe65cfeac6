import Derived.Test.YtjbpcffmeaadeaaHR
import Derived.Stop.RegionWithIn
import Derived.Sort.QuietIn
import Derived.Outline
/- The contract of the iterator that bits.from hands back. -/
namespace Go.Proofs.Ytjbpcffmeaadeaa.Pr
open Go.RowKit Go.Shelf Go.Proofs.YtjbpcffmeaadeaaW.PrintWords Go.Proofs.YtjbpcffmeaadeaaW.PrintLast Go.Proofs.YtjbpcffmeaadeaaW.PrintMore

/-- What the iterator reads: the boxes of the place and of the bytes, and the bytes. -/
def FB (Ba Bb : Nat) (A0 : Option Addr) (c0 : Nat) (l0 : List Int) (i : Nat) (W : World) : Prop :=
  Boxed W Ba 3 (.int .i64 (i : Int)) ∧ Boxed W Bb 22 (.slice A0 l0.length c0) ∧ Kd.C (Kd.int .u8) W A0 l0.length l0

theorem yieldN {l : Nat} {args : Array Value} {W : World} {R : Ending → World → Prop} (h : ∀ m, YieldAt Fence.wide 0 Try.prog l args (W.drewN m) R) :
    ∃ (fn : Nat → FuncId) (tmps : Nat → Array Value) (as_ bs_ : Nat → Code), ∀ m, (Instr.yield l args).run Try.prog (W.drewN m) = .ok (.round l (fn m) (tmps m) (as_ m) (bs_ m)) (W.drewN m) ∧ RoundIn Fence.wide 0 Try.prog l (fn m) (tmps m) (as_ m) (bs_ m) (W.drewN m) R :=
  ⟨fun m => (h m).choose, fun m => (h m).choose_spec.choose, fun m => (h m).choose_spec.choose_spec.choose, fun m => (h m).choose_spec.choose_spec.choose_spec.choose, fun m => (h m).choose_spec.choose_spec.choose_spec.choose_spec⟩

theorem wide_fn (f : FuncId) : Fence.wide.fn f = True := rfl
theorem wide_depth : Fence.wide.depth = none := rfl
theorem keeps_drewN (W : World) (m : Nat) : KeepsOthers W (W.drewN m) := ⟨Nat.le_refl _, fun _ _ h _ => h⟩
theorem toB {e : Ending} {p q : Prop} (h : (e = .returned (.bool true) ∧ p) ∨ (e = .returned (.bool false) ∧ q)) : ∃ b : Bool, e = .returned (.bool b) ∧ Aside0 ((b = true ∧ p) ∨ (b = false ∧ q)) := by
  rcases h with ⟨h, hp⟩ | ⟨h, hq⟩
  · exact ⟨true, h, ⟨.inl ⟨rfl, hp⟩⟩⟩
  · exact ⟨false, h, ⟨.inr ⟨rfl, hq⟩⟩⟩
attribute [local go_sem] Oper.semAt_some wide_fn wide_depth

set_option maxRecDepth 100000 in
set_option maxHeartbeats 2000000 in
theorem from1_seq (Ba Bb : Nat) (A0 : Option Addr) (c0 : Nat) (l0 : List Int) (at0 : Nat) (hok : OkB l0) (hc0 : l0.length ≤ c0)
    (J J' : Nat → World → Prop) (I0 : World → Prop) (hst : ∀ W, I0 W → J at0 W)
    (hJ : ∀ i W, J i W → FB Ba Bb A0 c0 l0 i W) (hJ' : ∀ i W, J' i W → FB Ba Bb A0 c0 l0 i W)
    (hnext : ∀ i W, J' i W → J (i + 1) (W.setCell ⟨Ba, 0, none⟩ (.int .i64 ((i + 1 : Nat) : Int)))) (hdr : ∀ i W m, J i W → J i (W.drewN m)) :
    MySeq 95 #[.pointer (some ⟨Ba, 0, none⟩), .pointer (some ⟨Bb, 0, none⟩)] (fun i : Nat => #[Value.int .i64 (i : Int), Value.int .i64 (bitB l0 i)])
      (fun i W => J i W ∧ i < 8 * l0.length) J' I0 (fun W => ∃ i, 8 * l0.length ≤ i ∧ J i W) := by
  intro l Xr Jx W hX hY h0 hXr
  refine callsIn_of_wp Try.func95 rfl trivial ?_ rfl
  simp only [Try.ntmps95, List.size_toArray, List.length_cons, List.length_nil, Nat.reduceAdd, Nat.reduceSub, Array.replicate_succ, Array.replicate_zero, List.push_toArray, List.append_toArray, List.nil_append, List.cons_append]
  gi_wp2
  gi_loopw [4] (fun _ wr => ∃ i : Nat, Aside0 (J i wr) ∧ Aside0 (Xr wr)) (fun _ wr => 8 * l0.length - (intOf ((wr.cell? ⟨Ba, 0, none⟩).getD undef)).toNat)
  case atStart => exact ⟨at0, ⟨hst _ h0⟩, ⟨hXr⟩⟩
  case round =>
    obtain ⟨i, HJ, HX⟩ := hrel
    obtain ⟨hb1, hb2, hC⟩ := hJ i wr HJ.out
    have hca := hb1.cell
    have hcb := hb2.cell
    have hfa := hb1.frozen
    have HC := Aside0.mk hC
    have Hcnt := Aside0.mk (count_eq l0 hok)
    clear hC hb1 hb2
    have hlen := hok.1
    have Hok := Aside0.mk hok
    clear hok
    by_cases hlt : i < 8 * l0.length
    · have hg : decide ((i : Int) < 8 * (l0.length : Int)) = true := decide_eq_true (by omega)
      have Hbit := Aside0.mk (bits_bit_eq l0 Hok.out i hlt)
      obtain ⟨fn, tmps, as_, bs_, hyR⟩ := yieldN (fun m => hY i (wr.drewN m) ⟨hdr i wr m HJ.out, hlt⟩ (hX _ _ (keeps_drewN wr m) HX.out))
      have hy := fun m => (hyR m).1
      have HR := Aside0.mk (fun m => (hyR m).2)
      clear hyR
      gi_wp2_with (fail)
      gi_region_with (first | (gi_at_call 60; refine (callsIn_wide.2 (bits_Count.calls A0 c0 l0 _ _ (by repeat (first | exact HC.out | apply Kd.C_drewN | apply Kd.C_drew)) hc0 Hcnt.out)).mono ?_; rintro e w' ⟨rfl, ⟨nd, rfl⟩⟩) | (gi_at_call 80; refine (callsIn_wide.2 (bits_bit.calls A0 c0 l0 (i : Int) _ _ (by repeat (first | exact HC.out | apply Kd.C_drewN | apply Kd.C_drew)) hc0 Hbit.out)).mono ?_; rintro e w' ⟨rfl, ⟨nd, rfl⟩⟩) | (refine (HR.out _).mono ?_; intro e W3 h3; obtain ⟨b, rfl, hb3⟩ := toB h3; clear h3))
      all_goals
        clear hy HR
        rcases hb3.out with ⟨rfl, hJ3, hX3⟩ | ⟨rfl, hJx3⟩
        · obtain ⟨hb1', hb2', hC'⟩ := hJ' i W3 hJ3
          have hca3 := hb1'.cell
          have hfa3 := hb1'.frozen
          have HJ3 := Aside0.mk hJ3
          have HX3 := Aside0.mk hX3
          clear hb3 hb1' hb2' hC' hJ3 hX3
          gi_wp2
          go_roundw
          case rel => exact ⟨i + 1, ⟨hnext i W3 HJ3.out⟩, ⟨hX _ _ (KeepsOthers.setCell _ _ _) HX3.out⟩⟩
          case measure =>
            rw [hca, World.cell?_setCell_same' _ _ _ (by rw [hca3]; rfl)]
            simp [intOf]
            omega
        · have HJx3 := Aside0.mk hJx3
          clear hb3 hJx3
          gi_wp2
          go_end0
          exact ⟨⟨_, rfl⟩, .inr ⟨i, HJx3.out⟩⟩
    · have hg : decide ((i : Int) < 8 * (l0.length : Int)) = false := decide_eq_false (by omega)
      gi_wp2_with (fail)
      gi_quiet ((gi_at_call 60; exact CallsIn.quiet_of (callsIn_wide.2 ((bits_Count.calls A0 c0 l0 _ _ (by repeat (first | exact HC.out | apply Kd.C_drewN | apply Kd.C_drew)) hc0 Hcnt.out).mono (fun e w' h => ⟨h.1, h.2.out⟩)))))
      all_goals
        gi_wp2
        go_end0
        exact ⟨⟨_, rfl⟩, .inl ⟨⟨i, by omega, hdr _ _ _ HJ.out⟩, hX _ _ (keeps_drewN _ _) HX.out⟩⟩
end Go.Proofs.Ytjbpcffmeaadeaa.Pr
