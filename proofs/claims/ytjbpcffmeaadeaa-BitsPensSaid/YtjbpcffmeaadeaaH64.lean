import Derived.Test.YtjbpcffmeaadeaaHS
import Derived.Scope
/- The contract of bits.Find, walked by hand over the law of HR and the iterator's contract. -/
namespace Go.Proofs.Ytjbpcffmeaadeaa.Pr
open Go.RowKit Go.Shelf Go.Proofs.YtjbpcffmeaadeaaW.PrintWords Go.Proofs.YtjbpcffmeaadeaaW.PrintLast Go.Proofs.YtjbpcffmeaadeaaW.PrintMore

/-- What lies in Find's own boxes while it looks. -/
structure FiB (w : World) (A0 : Option Addr) (c0 : Nat) (l0 : List Int) (run : Nat) (W : World) : Prop where
  below : Below w.heap.size w W
  b0 : Boxed W w.heap.size 3 (.int .i64 0)
  b1 : Boxed W (w.heap.size + 1) 27 (.int .i64 0)
  b2 : Boxed W (w.heap.size + 2) 3 (.int .i64 (run : Int))
  b3 : Boxed W (w.heap.size + 3) 22 (.slice A0 l0.length c0)
theorem FiB.putObj {w : World} {A0 : Option Addr} {c0 : Nat} {l0 : List Int} {run : Nat} {W : World} (h : FiB w A0 c0 l0 run W) {l : Nat} {o : Obj} (o' : Obj) (hl : w.heap.size + 5 ≤ l) (hb : W.heap[l]? = some o) : FiB w A0 c0 l0 run (W.putObj l o') :=
  ⟨below_putObj h.below _ (by omega) hb, boxed_putObj h.b0 _ (by omega), boxed_putObj h.b1 _ (by omega), boxed_putObj h.b2 _ (by omega), boxed_putObj h.b3 _ (by omega)⟩
theorem FiB.setA {w : World} {A0 : Option Addr} {c0 : Nat} {l0 : List Int} {run : Nat} {W : World} (h : FiB w A0 c0 l0 run W) (v : Value) : FiB w A0 c0 l0 run (W.setCell ⟨w.heap.size + 4, 0, none⟩ v) :=
  ⟨h.below.setCell (p := ⟨w.heap.size + 4, 0, none⟩) (by simp) _, boxed_far h.b0 (by simp) _, boxed_far h.b1 (by simp) _, boxed_far h.b2 (by simp) _, boxed_far h.b3 (by simp) _⟩
theorem FiB.drewN {w : World} {A0 : Option Addr} {c0 : Nat} {l0 : List Int} {run : Nat} {W : World} (h : FiB w A0 c0 l0 run W) (m : Nat) : FiB w A0 c0 l0 run (W.drewN m) :=
  ⟨pw_below_drewN h.below m, h.b0, h.b1, h.b2, h.b3⟩
theorem FiB.alloc {w : World} {A0 : Option Addr} {c0 : Nat} {l0 : List Int} {run : Nat} {W : World} (h : FiB w A0 c0 l0 run W) (o : Obj) : FiB w A0 c0 l0 run (W.alloc o) :=
  ⟨below_alloc h.below o, h.b0.alloc o, h.b1.alloc o, h.b2.alloc o, h.b3.alloc o⟩
theorem FiB.setRun {w : World} {A0 : Option Addr} {c0 : Nat} {l0 : List Int} {run : Nat} {W : World} (h : FiB w A0 c0 l0 run W) (r : Nat) : FiB w A0 c0 l0 r (W.setCell ⟨w.heap.size + 2, 0, none⟩ (.int .i64 (r : Int))) :=
  ⟨h.below.setCell (p := ⟨w.heap.size + 2, 0, none⟩) (by simp) _, boxed_far h.b0 (by simp) _, boxed_far h.b1 (by simp) _, h.b2.set _, boxed_far h.b3 (by simp) _⟩

def FiJ (w : World) (A0 : Option Addr) (c0 : Nat) (l0 : List Int) (R : Int × Int) (i : Nat) (W : World) : Prop :=
  ∃ run, FiB w A0 c0 l0 run W ∧ Boxed W (w.heap.size + 4) 3 (.int .i64 (i : Int)) ∧ findP l0 (8 * l0.length - i) i run = R ∧ run ≤ i
def FiJ' (w : World) (A0 : Option Addr) (c0 : Nat) (l0 : List Int) (R : Int × Int) (i : Nat) (W : World) : Prop :=
  ∃ run, FiB w A0 c0 l0 run W ∧ Boxed W (w.heap.size + 4) 3 (.int .i64 (i : Int)) ∧ findP l0 (8 * l0.length - (i + 1)) (i + 1) run = R ∧ run ≤ i + 1
def FiX (w : World) (r : Int × Int) (W : World) : Prop :=
  Below w.heap.size w W ∧ Boxed W w.heap.size 3 (.int .i64 r.1) ∧ Boxed W (w.heap.size + 1) 27 (.int .i64 r.2)
theorem FiX.putObj {w : World} {r : Int × Int} {W : World} (h : FiX w r W) {l : Nat} {o : Obj} (o' : Obj) (hl : w.heap.size + 5 ≤ l) (hb : W.heap[l]? = some o) : FiX w r (W.putObj l o') :=
  ⟨below_putObj h.1 _ (by omega) hb, boxed_putObj h.2.1 _ (by omega), boxed_putObj h.2.2 _ (by omega)⟩
theorem FiX_stores {w : World} {A0 : Option Addr} {c0 : Nat} {l0 : List Int} {run : Nat} {W : World} (h : FiB w A0 c0 l0 run W) (x y : Int) :
    FiX w (x, y) ((W.setCell ⟨w.heap.size, 0, none⟩ (.int .i64 x)).setCell ⟨w.heap.size + 1, 0, none⟩ (.int .i64 y)) :=
  ⟨(h.below.setCell (p := ⟨w.heap.size, 0, none⟩) (by simp) _).setCell (p := ⟨w.heap.size + 1, 0, none⟩) (by simp) _, boxed_far (h.b0.set _) (by simp) _, Boxed.set _ (boxed_far h.b1 (by simp) _)⟩
theorem FiJ_alloc {w : World} {A0 : Option Addr} {c0 : Nat} {l0 : List Int} {R : Int × Int} {i : Nat} {W : World} (h : FiJ w A0 c0 l0 R i W) (o : Obj) : FiJ w A0 c0 l0 R i (W.alloc o) := by
  obtain ⟨run, h1, h2, h3⟩ := h; exact ⟨run, h1.alloc o, h2.alloc o, h3⟩
theorem FiJ_putObj {w : World} {A0 : Option Addr} {c0 : Nat} {l0 : List Int} {R : Int × Int} {i : Nat} {W : World} (h : FiJ w A0 c0 l0 R i W) {l : Nat} {o : Obj} (o' : Obj) (hl : w.heap.size + 5 ≤ l) (hb : W.heap[l]? = some o) : FiJ w A0 c0 l0 R i (W.putObj l o') := by
  obtain ⟨run, h1, h2, h3⟩ := h; exact ⟨run, h1.putObj o' hl hb, boxed_putObj h2 _ (by omega), h3⟩
theorem FiJ'_putObj {w : World} {A0 : Option Addr} {c0 : Nat} {l0 : List Int} {R : Int × Int} {i : Nat} {W : World} (h : FiJ' w A0 c0 l0 R i W) {l : Nat} {o : Obj} (o' : Obj) (hl : w.heap.size + 5 ≤ l) (hb : W.heap[l]? = some o) : FiJ' w A0 c0 l0 R i (W.putObj l o') := by
  obtain ⟨run, h1, h2, h3⟩ := h; exact ⟨run, h1.putObj o' hl hb, boxed_putObj h2 _ (by omega), h3⟩

theorem wide_scope {c : Code} {Q : Exit → Act → World → Prop} {a : Act} {w : World} (h : c.wpIn Fence.wide 0 Try.prog (Exit.noGoto Q) a w) : (Code.scope c).wpIn Fence.wide 0 Try.prog Q a w :=
  wpIn_wide.2 (wp_scope_straight (wpIn_wide.1 h))

attribute [local go_sem] Oper.semAt_some wide_fn wide_depth

set_option maxRecDepth 100000 in
set_option maxHeartbeats 2000000 in
theorem Find_in (A0 : Option Addr) (c0 : Nat) (l0 : List Int) (a : Nat) (w : World) (R : Int × Int) (hR : findP l0 (8 * l0.length - a) a 0 = R) (hok : OkB l0) (hc0 : l0.length ≤ c0) (hC : Kd.C (Kd.int .u8) w A0 l0.length l0) (ha : (a : Int) ≤ 9223372036854775807) :
    CallsIn Fence.wide 0 Try.prog 64 #[.slice A0 l0.length c0, .int .i64 (a : Int)] w fun e w' => e = .returned (.tuple #[.int .i64 R.1, .int .i64 R.2]) ∧ Below w.heap.size w w' := by
  refine callsIn_of_wp_marks Try.func64 rfl trivial ?_ rfl
  simp only [Try.ntmps64, List.size_toArray, List.length_cons, List.length_nil, Nat.reduceAdd, Nat.reduceSub, Array.replicate_succ, Array.replicate_zero, List.push_toArray, List.append_toArray, List.nil_append, List.cons_append]
  have Hok := Aside0.mk hok
  have HC := Aside0.mk hC
  have HR := Aside0.mk hR
  have hlen := hok.1
  clear hok hC hR
  have ha0 : decide ((a : Int) < 0) = false := decide_eq_false (by omega)
  gi_wp2_with (fail)
  refine wide_scope ?_
  gi_wp2_with (fail)
  refine wpIn_label ?_
  gi_wp2_with (gi_at_call 89; refine (callsIn_wide.2 (from_calls _ _ _ _ _)).mono ?_; rintro e w' ⟨rfl, rfl⟩)
  obtain ⟨W0, hW0⟩ : ∃ W0, ((((w.alloc (.cells #[.int .i64 0] 3)).alloc (.cells #[.int .i64 0] 27)).alloc (.cells #[.int .i64 0] 3)).alloc (.cells #[.slice A0 l0.length c0] 22)).alloc (.cells #[.int .i64 (a : Int)] 3) = W0 := ⟨_, rfl⟩
  have hst : FiJ w A0 c0 l0 R a W0 := by
    subst hW0
    refine ⟨0, ⟨?_, ?_, ?_, ?_, ?_⟩, ?_, HR.out, by omega⟩
    · repeat (first | exact Below.refl _ _ | apply below_alloc)
    all_goals (simp only [Boxed, alloc_heap, World.size_alloc]; repeat (first | rfl | rw [if_pos (by omega)] | rw [if_neg (by omega)] | rw [if_pos trivial]))
  have hsz : W0.heap.size = w.heap.size + 5 := by subst hW0; simp
  rw [hW0]
  have Hst := Aside0.mk hst
  have Hsz := Aside0.mk hsz
  clear hst hW0 hsz
  simp only [Nat.add_assoc, Nat.reduceAdd]
  refine rangeMy (gf := 95) (lb := #[.pointer (some ⟨w.heap.size + 4, 0, none⟩), .pointer (some ⟨w.heap.size + 3, 0, none⟩)]) rfl (enters_of Try.func95 (by kernel_rfl) rfl)
    (encs := fun i : Nat => #[Value.int .i64 (i : Int), Value.int .i64 (bitB l0 i)])
    (fun i W => FiJ w A0 c0 l0 R i W ∧ i < 8 * l0.length) (FiJ' w A0 c0 l0 R) (FiJ w A0 c0 l0 R a) (fun W => ∃ i, 8 * l0.length ≤ i ∧ FiJ w A0 c0 l0 R i W) (fun c _ W => c = .ret ∧ FiX w R W)
    (from1_seq (w.heap.size + 4) (w.heap.size + 3) A0 c0 l0 a Hok.out hc0 (FiJ w A0 c0 l0 R) (FiJ' w A0 c0 l0 R) _ (fun _ h => h)
      (fun i W ⟨_, h1, h2, _⟩ => ⟨h2, h1.b3, Kd.C_below HC.out h1.below⟩) (fun i W ⟨_, h1, h2, _⟩ => ⟨h2, h1.b3, Kd.C_below HC.out h1.below⟩)
      (fun i W ⟨run, h1, h2, h3⟩ => ⟨run, h1.setA _, h2.set _, h3⟩) (fun i W m ⟨run, h1, h2, h3⟩ => ⟨run, h1.drewN m, h2, h3⟩))
    (fun _ => rfl) ?hI0 ?hI ?hI' ?hIe ?hIx Hst.out
    (fun i => { tmps := #[.slice A0 l0.length c0, .int .i64 (a : Int), undef, undef, .pointer (some ⟨w.heap.size, 0, none⟩), .pointer (some ⟨w.heap.size + 1, 0, none⟩), .pointer (some ⟨w.heap.size + 2, 0, none⟩), .int .i64 (i : Int), .int .i64 (bitB l0 i), .int .i64 (a : Int), .bool false, .slice A0 l0.length c0, .int .i64 (a : Int), .func (.func 95) #[] #[.pointer (some ⟨w.heap.size + 4, 0, none⟩), .pointer (some ⟨w.heap.size + 3, 0, none⟩)], .int .i64 (i : Int), .int .i64 (bitB l0 i), undef, undef, undef, undef, undef, undef, undef, undef, undef, undef], defers := [] }) ?assign ?body ?done ?stop
  case assign =>
    intro l x W K hK
    gi_wp2
    exact hK
  case hI0 => exact fun W o h => FiJ_alloc h o
  case hI => exact fun i W l o o' h hl hb _ => ⟨FiJ_putObj h.1 o' (by have := Hsz.out; omega) hb, h.2⟩
  case hI' => exact fun i W l o o' h hl hb _ => FiJ'_putObj h o' (by have := Hsz.out; omega) hb
  case hIe => exact fun W l o o' ⟨i, h1, h⟩ hl hb _ => ⟨i, h1, FiJ_putObj h o' (by have := Hsz.out; omega) hb⟩
  case hIx => exact fun c i W l o o' h hl hb _ => ⟨h.1, h.2.putObj o' (by have := Hsz.out; omega) hb⟩
  case body =>
    rintro l i W ⟨⟨run, hB, hbA, hF, hri⟩, hlt⟩
    have hc0' := hB.b0.cell
    have hc1 := hB.b1.cell
    have hc2 := hB.b2.cell
    have hf0 := hB.b0.frozen
    have hf1 := hB.b1.frozen
    have hf2 := hB.b2.frozen
    have HB := Aside0.mk hB
    have HbA := Aside0.mk hbA
    have HF := Aside0.mk hF
    have hw1 : IntKind.i64.wrap ((run : Int) + 1) = ((run + 1 : Nat) : Int) := by rw [IntKind.wrap_i64]; omega
    have hw15 : IntKind.i64.wrap ((i : Int) - 15) = (i : Int) - 15 := by rw [IntKind.wrap_i64]; omega
    have hd8 : 8 * l0.length - i = (8 * l0.length - (i + 1)) + 1 := by omega
    clear hB hbA hF Hst
    rcases bitB_01 l0 i with h0 | h1
    · have hz : (bitB l0 i == 0) = true := beq_iff_eq.2 h0
      have HN : Aside0 (findP l0 (8 * l0.length - (i + 1)) (i + 1) (run + 1) = R) := ⟨by
        have := HF.out
        rw [hd8] at this
        simp only [findP] at this
        rw [if_pos h0] at this
        exact this⟩
      clear h0 hd8
      gi_wp2
      refine ⟨KeepsOthers.setCell _ _ _, run + 1, ?_, boxed_far HbA.out (by simp) _, HN.out, by omega⟩
      have h := HB.out.setRun (run + 1)
      rw [show ((run + 1 : Nat) : Int) = (run : Int) + 1 from by omega] at h
      exact h
    · have hz : (bitB l0 i == 0) = false := beq_eq_false_iff_ne.2 (by omega)
      by_cases h15 : 15 ≤ run
      · have hd : decide ((run : Int) ≥ 15) = true := decide_eq_true (by omega)
        have hd' : decide ((15 : Int) ≤ (run : Int)) = true := decide_eq_true (by omega)
        have HN : Aside0 (((i : Int) - 15, 0) = R) := ⟨by
          have := HF.out
          rw [hd8] at this
          simp only [findP] at this
          rw [if_neg (by omega), if_pos h15] at this
          exact this⟩
        clear h1 hd8
        gi_wp2
        refine ⟨(KeepsOthers.setCell _ _ _).trans (KeepsOthers.setCell _ _ _), rfl, ?_⟩
        rw [← HN.out]
        exact FiX_stores HB.out _ _
      · have hd : decide ((run : Int) ≥ 15) = false := decide_eq_false (by omega)
        have hd' : decide ((15 : Int) ≤ (run : Int)) = false := decide_eq_false (by omega)
        have HN : Aside0 (findP l0 (8 * l0.length - (i + 1)) (i + 1) 0 = R) := ⟨by
          have := HF.out
          rw [hd8] at this
          simp only [findP] at this
          rw [if_neg (by omega), if_neg h15] at this
          exact this⟩
        clear h1 hd8
        gi_wp2
        exact ⟨KeepsOthers.setCell _ _ _, 0, HB.out.setRun 0, boxed_far HbA.out (by simp) _, HN.out, by omega⟩
  case done =>
    rintro D W hD ⟨i, hi, run, hB, hbA, hF, hri⟩ hK
    have hc0' := hB.b0.cell
    have hc1 := hB.b1.cell
    have hf0 := hB.b0.frozen
    have hf1 := hB.b1.frozen
    have HB := Aside0.mk hB
    have HK := Aside0.mk hK
    have hR5 : R = (0, 5) := by rw [← hF, show 8 * l0.length - i = 0 from by omega]; rfl
    clear hB hbA hF hK Hst HR
    subst hR5
    gi_wp2
    have hK2 : ((W.setCell ⟨w.heap.size, 0, none⟩ (.int .i64 0)).setCell ⟨w.heap.size + 1, 0, none⟩ (.int .i64 5)).heap[D]? = some (.deferred (some [])) :=
      ((KeepsOthers.setCell W _ _).trans (KeepsOthers.setCell _ _ _)).same D _ HK.out rfl
    have hX2 := (FiX_stores HB.out 0 5).putObj (.deferred none) (by have := Hsz.out; omega) hK2
    have q0 := hX2.2.1.cell
    have q1 := hX2.2.2.cell
    simp only [Exit.noGoto]
    refine ⟨by simp, .inl ⟨_, _, rfl, run_takeDeferred hK2, ?_⟩⟩
    refine ⟨.tuple #[.int .i64 0, .int .i64 5], ?_, rfl, hX2.1⟩
    simp [results, Try.results64, go_sem, q0, q1]
  case stop =>
    rintro D c i W hD ⟨rfl, hX⟩ hK
    gi_wp2
    have hX2 := hX.putObj (.deferred none) (by have := Hsz.out; omega) hK
    have q0 := hX2.2.1.cell
    have q1 := hX2.2.2.cell
    simp only [Exit.noGoto]
    refine ⟨by simp, .inl ⟨_, _, rfl, run_takeDeferred hK, ?_⟩⟩
    refine ⟨.tuple #[.int .i64 R.1, .int .i64 R.2], ?_, rfl, hX2.1⟩
    simp [results, Try.results64, go_sem, q0, q1]

set_option maxHeartbeats 1000000 in
set_option maxRecDepth 100000 in
theorem Find_neg (A0 : Option Addr) (len c0 : Nat) (a : Int) (w : World) (ha : a < 0) :
    Calls Try.prog 64 #[.slice A0 len c0, .int .i64 a] w fun e w' => e = .returned (.tuple #[.int .i64 0, .int .i64 3]) ∧ Below w.heap.size w w' := by
  have hd : decide (a < 0) = true := decide_eq_true ha
  go_enter Try.func64, Try.ntmps64
  go_wp2
  go_step3
  go_wp2
  simp only [Exit.noGoto]
  exact bodyPost_ret (v := .tuple #[.int .i64 0, .int .i64 3]) (by simp [results, Try.results64, go_sem]) rfl ⟨rfl, by repeat (first | exact Below.refl _ _ | apply below_alloc)⟩

theorem bits_Find.calls (A0 : Option Addr) (c0 : Nat) (l0 : List Int) (a1 : Int) (r1 : Int) (r2 : Int) (w : World) (hr0 : Kd.C (Kd.int .u8) w A0 l0.length l0) (hc0 : l0.length ≤ c0) (h : bits_Find.f l0 a1 = some (r1, r2)) :
    Calls Try.prog 64 #[.slice A0 l0.length c0, .int .i64 a1] w fun e w' => e = .returned (.tuple #[.int .i64 r1, .int .i64 r2]) ∧ Below w.heap.size w w' := by
  unfold bits_Find.f at h
  split at h
  · rename_i hc
    obtain ⟨hok, ha⟩ := hc
    have hp := Option.some.inj h
    by_cases hn : a1 < 0
    · rw [if_pos hn] at hp
      cases hp
      exact Find_neg A0 _ c0 a1 w hn
    · rw [if_neg hn] at hp
      obtain ⟨a, rfl⟩ := Int.eq_ofNat_of_zero_le (show 0 ≤ a1 by omega)
      rw [show ((a : Int)).toNat = a from by omega] at hp
      have := callsIn_wide.1 (Find_in A0 c0 l0 a w (r1, r2) hp hok hc0 hr0 ha.2)
      exact this
  · cases h
end Go.Proofs.Ytjbpcffmeaadeaa.Pr
