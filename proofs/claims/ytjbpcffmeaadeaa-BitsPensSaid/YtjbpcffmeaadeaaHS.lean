import Derived.Test.YtjbpcffmeaadeaaHF
/- The contract of bits.Start, walked by hand over the law of HR and the iterator's contract. -/
namespace Go.Proofs.Ytjbpcffmeaadeaa.Pr
open Go.RowKit Go.Shelf Go.Proofs.YtjbpcffmeaadeaaW.PrintWords Go.Proofs.YtjbpcffmeaadeaaW.PrintLast Go.Proofs.YtjbpcffmeaadeaaW.PrintMore

set_option maxHeartbeats 1000000 in
theorem from_calls (A0 : Option Addr) (len c0 : Nat) (a : Int) (w : World) :
    Calls Try.prog 89 #[.slice A0 len c0, .int .i64 a] w fun e w' => e = .returned (.func (.func 95) #[] #[.pointer (some ⟨w.heap.size + 1, 0, none⟩), .pointer (some ⟨w.heap.size, 0, none⟩)]) ∧
      (w.alloc (.cells #[.slice A0 len c0] 22)).alloc (.cells #[.int .i64 a] 3) = w' := by
  go_enter Try.func89, Try.ntmps89
  go_wp2
  go_ret
  exact ⟨rfl, rfl⟩

theorem boxed_putObj {W : World} {B : Nat} {t : TypeId} {v : Value} (h : Boxed W B t v) {l : Nat} (o' : Obj) (hl : B < l) : Boxed (W.putObj l o') B t v := (World.putObj_heap_other (by omega)).trans h
theorem boxed_far {W : World} {B : Nat} {t : TypeId} {v : Value} (h : Boxed W B t v) {p : Addr} (hp : B ≠ p.block) (u : Value) : Boxed (W.setCell p u) B t v := (Below.heap_setCell W p u B hp).trans h
theorem boxed_drewN {W : World} {B : Nat} {t : TypeId} {v : Value} (h : Boxed W B t v) (m : Nat) : Boxed (W.drewN m) B t v := h
theorem below_putObj {n₀ : Nat} {w W : World} (h : Below n₀ w W) {l : Nat} {o : Obj} (o' : Obj) (hn : n₀ ≤ l) (hl : W.heap[l]? = some o) : Below n₀ w (W.putObj l o') :=
  h.trans ((Below.refl n₀ W).grown (grownBy_putObj' W l o') (by have := (Array.getElem?_eq_some_iff.1 hl).1; omega) (fun k e => by cases e; omega))

theorem alloc_heap (w : World) (o : Obj) (i : Nat) : (w.alloc o).heap[i]? = if i = w.heap.size then some o else w.heap[i]? := by
  show (w.heap.push o)[i]? = _
  rw [Array.getElem?_push]

/-- What lies in Start's own boxes while it looks. -/
structure StB (w : World) (A0 : Option Addr) (c0 : Nat) (l0 : List Int) (a : Nat) (W : World) : Prop where
  below : Below w.heap.size w W
  b0 : Boxed W w.heap.size 22 (.slice A0 l0.length c0)
  b1 : Boxed W (w.heap.size + 1) 3 (.int .i64 (a : Int))
  b2 : Boxed W (w.heap.size + 2) 3 (.int .i64 0)
  b3 : Boxed W (w.heap.size + 3) 3 (.int .i64 0)
  b4 : Boxed W (w.heap.size + 4) 27 (.int .i64 0)
  b5 : Boxed W (w.heap.size + 5) 22 (.slice A0 l0.length c0)

theorem StB.putObj {w : World} {A0 : Option Addr} {c0 : Nat} {l0 : List Int} {a : Nat} {W : World} (h : StB w A0 c0 l0 a W) {l : Nat} {o : Obj} (o' : Obj) (hl : w.heap.size + 7 ≤ l) (hb : W.heap[l]? = some o) : StB w A0 c0 l0 a (W.putObj l o') :=
  ⟨below_putObj h.below _ (by omega) hb, boxed_putObj h.b0 _ (by omega), boxed_putObj h.b1 _ (by omega), boxed_putObj h.b2 _ (by omega), boxed_putObj h.b3 _ (by omega), boxed_putObj h.b4 _ (by omega), boxed_putObj h.b5 _ (by omega)⟩
theorem StB.setA {w : World} {A0 : Option Addr} {c0 : Nat} {l0 : List Int} {a : Nat} {W : World} (h : StB w A0 c0 l0 a W) (v : Value) : StB w A0 c0 l0 a (W.setCell ⟨w.heap.size + 6, 0, none⟩ v) :=
  ⟨h.below.setCell (p := ⟨w.heap.size + 6, 0, none⟩) (by simp) _, boxed_far h.b0 (by simp) _, boxed_far h.b1 (by simp) _, boxed_far h.b2 (by simp) _, boxed_far h.b3 (by simp) _, boxed_far h.b4 (by simp) _, boxed_far h.b5 (by simp) _⟩
theorem StB.drewN {w : World} {A0 : Option Addr} {c0 : Nat} {l0 : List Int} {a : Nat} {W : World} (h : StB w A0 c0 l0 a W) (m : Nat) : StB w A0 c0 l0 a (W.drewN m) :=
  ⟨pw_below_drewN h.below m, h.b0, h.b1, h.b2, h.b3, h.b4, h.b5⟩

/-- Only noughts from a on, ahead of i. -/
def Noughts (l : List Int) (a i : Nat) : Prop := ∀ j, a ≤ j → j < i → bitB l j = 0

/-- The answer lies in the results' boxes. -/
def StX (w : World) (r : Int × Int × Int) (W : World) : Prop :=
  Below w.heap.size w W ∧ Boxed W (w.heap.size + 2) 3 (.int .i64 r.1) ∧ Boxed W (w.heap.size + 3) 3 (.int .i64 r.2.1) ∧ Boxed W (w.heap.size + 4) 27 (.int .i64 r.2.2)
theorem StX.putObj {w : World} {r : Int × Int × Int} {W : World} (h : StX w r W) {l : Nat} {o : Obj} (o' : Obj) (hl : w.heap.size + 5 ≤ l) (hb : W.heap[l]? = some o) : StX w r (W.putObj l o') :=
  ⟨below_putObj h.1 _ (by omega) hb, boxed_putObj h.2.1 _ (by omega), boxed_putObj h.2.2.1 _ (by omega), boxed_putObj h.2.2.2 _ (by omega)⟩

def StJ (w : World) (A0 : Option Addr) (c0 : Nat) (l0 : List Int) (a i : Nat) (W : World) : Prop :=
  StB w A0 c0 l0 a W ∧ Boxed W (w.heap.size + 6) 3 (.int .i64 (i : Int)) ∧ a ≤ i ∧ Noughts l0 a i
def StJ' (w : World) (A0 : Option Addr) (c0 : Nat) (l0 : List Int) (a i : Nat) (W : World) : Prop :=
  StB w A0 c0 l0 a W ∧ Boxed W (w.heap.size + 6) 3 (.int .i64 (i : Int)) ∧ a ≤ i ∧ Noughts l0 a (i + 1)

theorem StB.alloc {w : World} {A0 : Option Addr} {c0 : Nat} {l0 : List Int} {a : Nat} {W : World} (h : StB w A0 c0 l0 a W) (o : Obj) : StB w A0 c0 l0 a (W.alloc o) :=
  ⟨below_alloc h.below o, h.b0.alloc o, h.b1.alloc o, h.b2.alloc o, h.b3.alloc o, h.b4.alloc o, h.b5.alloc o⟩
theorem StJ_alloc {w : World} {A0 : Option Addr} {c0 : Nat} {l0 : List Int} {a i : Nat} {W : World} (h : StJ w A0 c0 l0 a i W) (o : Obj) : StJ w A0 c0 l0 a i (W.alloc o) :=
  ⟨h.1.alloc o, h.2.1.alloc o, h.2.2⟩
theorem StJ_putObj {w : World} {A0 : Option Addr} {c0 : Nat} {l0 : List Int} {a i : Nat} {W : World} (h : StJ w A0 c0 l0 a i W) {l : Nat} {o : Obj} (o' : Obj) (hl : w.heap.size + 7 ≤ l) (hb : W.heap[l]? = some o) : StJ w A0 c0 l0 a i (W.putObj l o') :=
  ⟨h.1.putObj o' hl hb, boxed_putObj h.2.1 _ (by omega), h.2.2⟩
theorem StX_stores {w : World} {A0 : Option Addr} {c0 : Nat} {l0 : List Int} {a : Nat} {W : World} (h : StB w A0 c0 l0 a W) (x y z : Int) :
    StX w (x, y, z) (((W.setCell ⟨w.heap.size + 2, 0, none⟩ (.int .i64 x)).setCell ⟨w.heap.size + 3, 0, none⟩ (.int .i64 y)).setCell ⟨w.heap.size + 4, 0, none⟩ (.int .i64 z)) := by
  refine ⟨((h.below.setCell (p := ⟨w.heap.size + 2, 0, none⟩) (by simp) _).setCell (p := ⟨w.heap.size + 3, 0, none⟩) (by simp) _).setCell (p := ⟨w.heap.size + 4, 0, none⟩) (by simp) _, ?_, ?_, ?_⟩
  · exact boxed_far (boxed_far (h.b2.set _) (by simp) _) (by simp) _
  · exact boxed_far (Boxed.set _ (boxed_far h.b3 (by simp) _)) (by simp) _
  · exact Boxed.set _ (boxed_far (boxed_far h.b4 (by simp) _) (by simp) _)

/-- The first one, if there are noughts alone ahead of it. -/
theorem firstOne_at (l : List Int) (i : Nat) : ∀ (d a : Nat), a ≤ i → i < a + d → Noughts l a i → bitB l i ≠ 0 → firstOne l d a = some i := by
  intro d
  induction d with
  | zero => intro a h1 h2; omega
  | succ d ih =>
    intro a h1 h2 hn hb
    unfold firstOne
    by_cases e : a = i
    · subst e; rw [if_neg hb]
    · rw [if_pos (hn a (Nat.le_refl _) (by omega))]
      exact ih (a + 1) (by omega) (by omega) (fun j hj1 hj2 => hn j (by omega) hj2) hb
theorem firstOne_none (l : List Int) : ∀ (d a : Nat), Noughts l a (a + d) → firstOne l d a = none := by
  intro d
  induction d with
  | zero => intro a _; rfl
  | succ d ih =>
    intro a hn
    unfold firstOne
    rw [if_pos (hn a (Nat.le_refl _) (by omega))]
    exact ih (a + 1) (fun j hj1 hj2 => hn j (by omega) (by omega))

theorem startP_one (l : List Int) (a i : Nat) (h1 : a ≤ i) (h2 : i < 8 * l.length) (hn : Noughts l a i) (hb : bitB l i ≠ 0) :
    startP l (a : Int) = if (i : Int) - a < 15 then (0, 0, 7) else if (readP l (i + 1) 4).2 = 0 then ((readP l (i + 1) 4).1, (i : Int) + 5 - a, 0) else (0, 0, (readP l (i + 1) 4).2) := by
  unfold startP
  rw [if_neg (by omega)]
  have e : ((a : Int)).toNat = a := by omega
  rw [e, firstOne_at l i _ a h1 (by omega) hn hb]
theorem startP_none (l : List Int) (a i : Nat) (h2 : 8 * l.length ≤ i) (hn : Noughts l a i) : startP l (a : Int) = (0, 0, 5) := by
  unfold startP
  rw [if_neg (by omega)]
  have e : ((a : Int)).toNat = a := by omega
  rw [e, firstOne_none l _ a (fun j hj1 hj2 => hn j hj1 (by omega))]

theorem i64w5 (i a : Nat) (hi : (i : Int) < 1125899906842624) (ha : a ≤ i) : IntKind.i64.wrap (IntKind.i64.wrap ((i : Int) + 5) - a) = (i : Int) + 5 - a := by
  simp only [IntKind.wrap_i64]
  omega

attribute [local go_sem] Oper.semAt_some wide_fn wide_depth

set_option maxRecDepth 100000 in
set_option maxHeartbeats 2000000 in
theorem Start_in (A0 : Option Addr) (c0 : Nat) (l0 : List Int) (a : Nat) (w : World) (hok : OkB l0) (hc0 : l0.length ≤ c0) (hC : Kd.C (Kd.int .u8) w A0 l0.length l0) (ha : (a : Int) ≤ 9223372036854775807) :
    CallsIn Fence.wide 0 Try.prog 66 #[.slice A0 l0.length c0, .int .i64 (a : Int)] w fun e w' => e = .returned (.tuple #[.int .i64 (startP l0 a).1, .int .i64 (startP l0 a).2.1, .int .i64 (startP l0 a).2.2]) ∧ Below w.heap.size w w' := by
  refine callsIn_of_wp_marks Try.func66 rfl trivial ?_ rfl
  simp only [Try.ntmps66, List.size_toArray, List.length_cons, List.length_nil, Nat.reduceAdd, Nat.reduceSub, Array.replicate_succ, Array.replicate_zero, List.push_toArray, List.append_toArray, List.nil_append, List.cons_append]
  have Hok := Aside0.mk hok
  have HC := Aside0.mk hC
  have hlen := hok.1
  clear hok hC
  have ha0 : decide ((a : Int) < 0) = false := decide_eq_false (by omega)
  gi_wp2_with (gi_at_call 89; refine (callsIn_wide.2 (from_calls _ _ _ _ _)).mono ?_; rintro e w' ⟨rfl, rfl⟩)
  obtain ⟨W0, hW0⟩ : ∃ W0, ((((((w.alloc (.cells #[.slice A0 l0.length c0] 22)).alloc (.cells #[.int .i64 (a : Int)] 3)).alloc (.cells #[.int .i64 0] 3)).alloc (.cells #[.int .i64 0] 3)).alloc (.cells #[.int .i64 0] 27)).alloc (.cells #[.slice A0 l0.length c0] 22)).alloc (.cells #[.int .i64 (a : Int)] 3) = W0 := ⟨_, rfl⟩
  have hst : StJ w A0 c0 l0 a a W0 := by
    subst hW0
    refine ⟨⟨?_, ?_, ?_, ?_, ?_, ?_, ?_⟩, ?_, Nat.le_refl _, fun j h1 h2 => by omega⟩
    · repeat (first | exact Below.refl _ _ | apply below_alloc)
    all_goals (simp only [Boxed, alloc_heap, World.size_alloc]; repeat (first | rfl | rw [if_pos (by omega)] | rw [if_neg (by omega)] | rw [if_pos trivial]))
  have hsz : W0.heap.size = w.heap.size + 7 := by subst hW0; simp
  rw [hW0]
  have Hst := Aside0.mk hst
  have Hsz := Aside0.mk hsz
  clear hst hW0 hsz
  simp only [Nat.add_assoc, Nat.reduceAdd]
  refine rangeMy (gf := 95) (lb := #[.pointer (some ⟨w.heap.size + 6, 0, none⟩), .pointer (some ⟨w.heap.size + 5, 0, none⟩)]) rfl (enters_of Try.func95 (by kernel_rfl) rfl)
    (encs := fun i : Nat => #[Value.int .i64 (i : Int), Value.int .i64 (bitB l0 i)])
    (fun i W => StJ w A0 c0 l0 a i W ∧ i < 8 * l0.length) (StJ' w A0 c0 l0 a) (StJ w A0 c0 l0 a a) (fun W => ∃ i, 8 * l0.length ≤ i ∧ StJ w A0 c0 l0 a i W) (fun c _ W => c = .ret ∧ StX w (startP l0 a) W)
    (from1_seq (w.heap.size + 6) (w.heap.size + 5) A0 c0 l0 a Hok.out hc0 (StJ w A0 c0 l0 a) (StJ' w A0 c0 l0 a) _ (fun _ h => h)
      (fun i W h => ⟨h.2.1, h.1.b5, Kd.C_below HC.out h.1.below⟩) (fun i W h => ⟨h.2.1, h.1.b5, Kd.C_below HC.out h.1.below⟩)
      (fun i W h => ⟨h.1.setA _, h.2.1.set _, by have := h.2.2.1; omega, h.2.2.2⟩) (fun i W m h => ⟨h.1.drewN m, h.2.1, h.2.2⟩))
    (fun _ => rfl) ?hI0 ?hI ?hI' ?hIe ?hIx Hst.out
    (fun i => { tmps := #[.slice A0 l0.length c0, .int .i64 (a : Int), .pointer (some ⟨w.heap.size, 0, none⟩), .pointer (some ⟨w.heap.size + 1, 0, none⟩), .pointer (some ⟨w.heap.size + 2, 0, none⟩), .pointer (some ⟨w.heap.size + 3, 0, none⟩), .pointer (some ⟨w.heap.size + 4, 0, none⟩), .int .i64 (i : Int), .int .i64 (bitB l0 i), undef, undef, .int .i64 (a : Int), .bool false, .slice A0 l0.length c0, .int .i64 (a : Int), .func (.func 95) #[] #[.pointer (some ⟨w.heap.size + 6, 0, none⟩), .pointer (some ⟨w.heap.size + 5, 0, none⟩)], .int .i64 (i : Int), .int .i64 (bitB l0 i), undef, undef, undef, undef, undef, undef, undef, undef, undef, undef, undef, undef, undef, undef, undef, undef, undef, undef, undef, undef, undef, undef, undef], defers := [] }) ?assign ?body ?done ?stop
  case assign =>
    intro l x W K hK
    gi_wp2
    exact hK
  case hI0 => exact fun W o h => StJ_alloc h o
  case hI => exact fun i W l o o' h hl hb _ => ⟨StJ_putObj h.1 o' (by have := Hsz.out; omega) hb, h.2⟩
  case hI' => exact fun i W l o o' h hl hb _ => ⟨h.1.putObj o' (by have := Hsz.out; omega) hb, boxed_putObj h.2.1 _ (by have := Hsz.out; omega), h.2.2⟩
  case hIe => exact fun W l o o' ⟨i, h1, h⟩ hl hb _ => ⟨i, h1, StJ_putObj h o' (by have := Hsz.out; omega) hb⟩
  case hIx => exact fun c i W l o o' h hl hb _ => ⟨h.1, h.2.putObj o' (by have := Hsz.out; omega) hb⟩
  case body =>
    rintro l i W ⟨⟨hB, hbA, hai, hN⟩, hlt⟩
    have hb1 := hB.b1.cell
    have hb0 := hB.b0.cell
    have hc2 := hB.b2.cell
    have hc3 := hB.b3.cell
    have hc4 := hB.b4.cell
    have hf2 := hB.b2.frozen
    have hf3 := hB.b3.frozen
    have hf4 := hB.b4.frozen
    have HB := Aside0.mk hB
    have HbA := Aside0.mk hbA
    have HN := Aside0.mk hN
    clear hB hbA hN Hst
    rcases bitB_01 l0 i with h0 | h1
    · have Hz := Aside0.mk h0
      have hz : (bitB l0 i == 0) = true := beq_iff_eq.2 h0
      clear h0
      gi_wp2
      exact ⟨KeepsOthers.refl _, HB.out, HbA.out, hai, fun j h1 h2 => by
        by_cases e : j = i
        · subst e; exact Hz.out
        · exact HN.out j h1 (by omega)⟩
    · have Hone := Aside0.mk (show bitB l0 i ≠ 0 by omega)
      have hz : (bitB l0 i == 0) = false := beq_eq_false_iff_ne.2 (by omega)
      have hz2 : (bitB l0 i != 0) = true := bne_iff_ne.2 (by omega)
      clear h1
      by_cases h15 : (i : Int) - a < 15
      · have hd : decide ((i : Int) - a < 15) = true := decide_eq_true h15
        gi_wp2
        refine ⟨?_, rfl, ?_⟩
        · repeat (first | exact KeepsOthers.refl _ | refine KeepsOthers.trans ?_ (KeepsOthers.setCell _ _ _))
        · rw [startP_one l0 a i hai hlt HN.out Hone.out, if_pos h15]
          exact StX_stores HB.out 0 0 7
      · have hd : decide ((i : Int) - a < 15) = false := decide_eq_false h15
        have H15 := Aside0.mk h15
        obtain ⟨x, e, hp⟩ : ∃ x e, readP l0 ((i : Int) + 1) 4 = (x, e) := ⟨_, _, rfl⟩
        have Hrd := Aside0.mk ((bits_Read_eq l0 Hok.out ((i : Int) + 1) 4 40 (by omega)).trans (congrArg some hp))
        have Hp := Aside0.mk hp
        clear hp
        have HCW := Aside0.mk (Kd.C_below HC.out HB.out.below)
        by_cases he : e = 0
        · have hee : (e != 0) = false := bne_eq_false_iff_eq.2 he
          have He := Aside0.mk he
          clear he
          gi_wp2_with (gi_at_call 36; refine (CallsIn.inRound l (callsIn_wide.2 (bits_Read.calls 40 A0 c0 l0 ((i : Int) + 1) 4 x e _ (by exact HCW.out) hc0 Hrd.out))).mono ?_; rintro e1 w1 ⟨rfl, ⟨nd, rfl⟩⟩)
          gi_region_with (fail)
          all_goals
            gi_wp2
            refine ⟨?_, rfl, ?_⟩
            · refine KeepsOthers.trans (keeps_drewN W (nd + 1)) ?_
              repeat (first | exact KeepsOthers.refl _ | refine KeepsOthers.trans ?_ (KeepsOthers.setCell _ _ _))
            · rw [startP_one l0 a i hai hlt HN.out Hone.out, if_neg (show ¬ ((i : Int) - a < 15) from by have := H15.out; omega), Hp.out, if_pos He.out, i64w5 i a (by omega) hai]
              exact StX_stores (HB.out.drewN (nd + 1)) x _ 0
        · have hee : (e != 0) = true := bne_iff_ne.2 he
          gi_wp2_with (gi_at_call 36; refine (CallsIn.inRound l (callsIn_wide.2 (bits_Read.calls 40 A0 c0 l0 ((i : Int) + 1) 4 x e _ (by exact HCW.out) hc0 Hrd.out))).mono ?_; rintro e1 w1 ⟨rfl, ⟨nd, rfl⟩⟩)
          refine ⟨?_, rfl, ?_⟩
          · refine KeepsOthers.trans (keeps_drewN W nd) ?_
            repeat (first | exact KeepsOthers.refl _ | refine KeepsOthers.trans ?_ (KeepsOthers.setCell _ _ _))
          · rw [startP_one l0 a i hai hlt HN.out Hone.out, if_neg (show ¬ ((i : Int) - a < 15) from by have := H15.out; omega), Hp.out, if_neg he]
            exact StX_stores (HB.out.drewN nd) 0 0 e
  case done =>
    rintro D W hD ⟨i, hi, hB, hbA, hai, hN⟩ hK
    have hc2 := hB.b2.cell
    have hc3 := hB.b3.cell
    have hc4 := hB.b4.cell
    have hf2 := hB.b2.frozen
    have hf3 := hB.b3.frozen
    have hf4 := hB.b4.frozen
    have HB := Aside0.mk hB
    have HN := Aside0.mk hN
    have HK := Aside0.mk hK
    clear hB hbA hN hK Hst
    gi_wp2
    have hK2 : (((W.setCell ⟨w.heap.size + 2, 0, none⟩ (.int .i64 0)).setCell ⟨w.heap.size + 3, 0, none⟩ (.int .i64 0)).setCell ⟨w.heap.size + 4, 0, none⟩ (.int .i64 5)).heap[D]? = some (.deferred (some [])) :=
      (((KeepsOthers.setCell W _ _).trans (KeepsOthers.setCell _ _ _)).trans (KeepsOthers.setCell _ _ _)).same D _ HK.out rfl
    have hX := StX_stores HB.out 0 0 5
    have hX2 := hX.putObj (.deferred none) (by have := Hsz.out; omega) hK2
    have q2 := hX2.2.1.cell
    have q3 := hX2.2.2.1.cell
    have q4 := hX2.2.2.2.cell
    refine ⟨by simp, .inl ⟨_, _, rfl, run_takeDeferred hK2, ?_⟩⟩
    rw [startP_none l0 a i hi HN.out]
    refine ⟨.tuple #[.int .i64 0, .int .i64 0, .int .i64 5], ?_, rfl, hX2.1⟩
    simp [results, Try.results66, go_sem, q2, q3, q4]
  case stop =>
    rintro D c i W hD ⟨rfl, hX⟩ hK
    gi_wp2
    have hX2 := hX.putObj (.deferred none) (by have := Hsz.out; omega) hK
    have q2 := hX2.2.1.cell
    have q3 := hX2.2.2.1.cell
    have q4 := hX2.2.2.2.cell
    refine ⟨by simp, .inl ⟨_, _, rfl, run_takeDeferred hK, ?_⟩⟩
    refine ⟨.tuple #[.int .i64 (startP l0 a).1, .int .i64 (startP l0 a).2.1, .int .i64 (startP l0 a).2.2], ?_, rfl, hX2.1⟩
    simp [results, Try.results66, go_sem, q2, q3, q4]

set_option maxHeartbeats 1000000 in
set_option maxRecDepth 100000 in
theorem Start_neg (A0 : Option Addr) (len c0 : Nat) (a : Int) (w : World) (ha : a < 0) :
    Calls Try.prog 66 #[.slice A0 len c0, .int .i64 a] w fun e w' => e = .returned (.tuple #[.int .i64 0, .int .i64 0, .int .i64 3]) ∧ Below w.heap.size w w' := by
  have hd : decide (a < 0) = true := decide_eq_true ha
  go_enter Try.func66, Try.ntmps66
  go_wp2
  exact bodyPost_ret (v := .tuple #[.int .i64 0, .int .i64 0, .int .i64 3]) (by simp [results, Try.results66, go_sem]) rfl ⟨rfl, by repeat (first | exact Below.refl _ _ | apply below_alloc)⟩

theorem bits_Start.calls (A0 : Option Addr) (c0 : Nat) (l0 : List Int) (a1 : Int) (r1 : Int) (r2 : Int) (r3 : Int) (w : World) (hr0 : Kd.C (Kd.int .u8) w A0 l0.length l0) (hc0 : l0.length ≤ c0) (h : bits_Start.f l0 a1 = some (r1, r2, r3)) :
    Calls Try.prog 66 #[.slice A0 l0.length c0, .int .i64 a1] w fun e w' => e = .returned (.tuple #[.int .i64 r1, .int .i64 r2, .int .i64 r3]) ∧ Below w.heap.size w w' := by
  unfold bits_Start.f at h
  split at h
  · rename_i hc
    obtain ⟨hok, ha⟩ := hc
    have hp : startP l0 a1 = (r1, r2, r3) := Option.some.inj h
    by_cases hn : a1 < 0
    · have : startP l0 a1 = (0, 0, 3) := by unfold startP; rw [if_pos hn]
      rw [this] at hp
      cases hp
      exact Start_neg A0 _ c0 a1 w hn
    · obtain ⟨a, rfl⟩ := Int.eq_ofNat_of_zero_le (show 0 ≤ a1 by omega)
      have := callsIn_wide.1 (Start_in A0 c0 l0 a w hok hc0 hr0 ha.2)
      rw [hp] at this
      exact this
  · cases h
end Go.Proofs.Ytjbpcffmeaadeaa.Pr
