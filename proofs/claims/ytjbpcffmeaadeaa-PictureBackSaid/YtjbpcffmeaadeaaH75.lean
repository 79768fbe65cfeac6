import Derived.Test.YtjbpcffmeaadeaaHS
/- The contract of picture's cursor: take, walked by hand. -/
namespace Go.Proofs.Ytjbpcffmeaadeaa.Pr
open Go.RowKit Go.Shelf Go.Proofs.YtjbpcffmeaadeaaW.PrintWords Go.Proofs.YtjbpcffmeaadeaaW.PrintLast Go.Proofs.YtjbpcffmeaadeaaW.PrintMore

/-- What take answers, and the cursor behind it: the number, the place, what went wrong. -/
def takeP (l : List Int) (a b n : Int) : Int × Int × Int :=
  if b ≠ 0 then (0, a, b) else ((readP l a n).1, if (readP l a n).2 = 0 then a + n else a, (readP l a n).2)

theorem readP_zero {l : List Int} {a n x : Int} (h : readP l a n = (x, 0)) : 0 ≤ a ∧ a + n ≤ 8 * (l.length : Int) ∧ 0 ≤ n ∧ n ≤ 32 ∧ x = numB l a.toNat n.toNat := by
  unfold readP at h
  split at h
  · simp at h
  · split at h
    · simp at h
    · simp only [Prod.mk.injEq] at h
      exact ⟨by omega, by omega, by omega, by omega, h.1.symm⟩

/-- The cursor's block. -/
def Cur (C : Nat) (A0 : Option Addr) (len c0 : Nat) (a b : Int) (W : World) : Prop := W.heap[C]? = some (.cells #[.slice A0 len c0, .int .i64 a, .int .i64 b] 91 (0, 0))

/-- From W to W' the block C alone has turned. -/
structure Tk (C : Nat) (W W' : World) : Prop where
  size : W'.heap.size = W.heap.size
  far : ∀ k, k ≠ C → W'.heap[k]? = W.heap[k]?
  below : ∀ n₀ w0, n₀ ≤ C → Below n₀ w0 W → Below n₀ w0 W'
theorem Tk.refl (C : Nat) (W : World) : Tk C W W := ⟨rfl, fun _ _ => rfl, fun _ _ _ h => h⟩
theorem Tk.drewN {C : Nat} {W W' : World} (h : Tk C W W') (m : Nat) : Tk C W (W'.drewN m) := ⟨h.size, h.far, fun n w0 hn hb => pw_below_drewN (h.below n w0 hn hb) m⟩
theorem Tk.set {C : Nat} {W W' : World} (h : Tk C W W') (i : Nat) (v : Value) : Tk C W (W'.setCell ⟨C, i, none⟩ v) :=
  ⟨(World.size_setCell _ _ _).trans h.size, fun k hk => (Below.heap_setCell W' ⟨C, i, none⟩ v k hk).trans (h.far k hk), fun n w0 hn hb => (h.below n w0 hn hb).setCell (p := ⟨C, i, none⟩) hn v⟩
theorem Tk.trans {C : Nat} {A B D : World} (h : Tk C A B) (g : Tk C B D) : Tk C A D :=
  ⟨g.size.trans h.size, fun k hk => (g.far k hk).trans (h.far k hk), fun n w0 hn hb => g.below n w0 hn (h.below n w0 hn hb)⟩

theorem Tk.keeps {C : Nat} {W W' : World} {A0 : Option Addr} {len c0 : Nat} {a b : Int} (h : Tk C W W') (hq : Cur C A0 len c0 a b W) : KeepsOthers W W' :=
  ⟨by rw [h.size]; exact Nat.le_refl _, fun k o ho hc => by
    by_cases hk : k = C
    · subst hk; unfold Cur at hq; rw [hq] at ho; cases ho; cases hc
    · rw [h.far k hk]; exact ho⟩

set_option maxRecDepth 100000 in
set_option maxHeartbeats 2000000 in
theorem take_calls (C : Nat) (A0 : Option Addr) (c0 : Nat) (l0 : List Int) (a b n : Int) (w : World) (hok : OkB l0) (hc0 : l0.length ≤ c0) (hC : Kd.C (Kd.int .u8) w A0 l0.length l0)
    (hq : Cur C A0 l0.length c0 a b w) :
    Calls Try.prog 75 #[.pointer (some ⟨C, 0, none⟩), .int .i64 n] w fun e w' => e = .returned (.int .i64 (takeP l0 a b n).1) ∧ Tk C w w' ∧ Cur C A0 l0.length c0 (takeP l0 a b n).2.1 (takeP l0 a b n).2.2 w' := by
  unfold Cur at hq
  have hp0 : w.cell? ⟨C, 0, none⟩ = some (.slice A0 l0.length c0) := (blk_cell hq 0).trans rfl
  have hp1 : w.cell? ⟨C, 1, none⟩ = some (.int .i64 a) := (blk_cell hq 1).trans rfl
  have hp2 : w.cell? ⟨C, 2, none⟩ = some (.int .i64 b) := (blk_cell hq 2).trans rfl
  have hf1 := blk_frozen hq 1
  have hf2 := blk_frozen hq 2
  have Hq := Aside0.mk hq
  have Hok := Aside0.mk hok
  have HC := Aside0.mk hC
  clear hq hok hC
  by_cases hb : b = 0
  · subst hb
    obtain ⟨x, e, hp⟩ : ∃ x e, readP l0 a n = (x, e) := ⟨_, _, rfl⟩
    have Hrd := Aside0.mk ((bits_Read_eq l0 Hok.out a n 40 (by omega)).trans (congrArg some hp))
    have Ht : Aside0 (takeP l0 a 0 n = (x, if e = 0 then a + n else a, e)) := ⟨by unfold takeP; rw [if_neg (by simp), hp]⟩
    rw [Ht.out]
    by_cases he : e = 0
    · subst he
      have hw : IntKind.i64.wrap (a + n) = a + n := by have := readP_zero hp; have := Hok.out.1; rw [IntKind.wrap_i64]; omega
      clear hp
      go_enter Try.func75, Try.ntmps75
      go_wp2
      go_quiet ((go_at_call 36; exact Calls.quiet_of ((bits_Read.calls 40 A0 c0 l0 a n x _ _ (by repeat (first | exact HC.out | apply Kd.C_drewN | apply Kd.C_drew)) hc0 Hrd.out).mono (fun e w' h => ⟨h.1, h.2.out⟩))))
      go_wp2
      go_ret
      refine ⟨rfl, ?_, ?_⟩
      · repeat (first | exact Tk.refl _ _ | apply Tk.set | apply Tk.drewN)
      · exact blk_put (blk_put (blk_drewN Hq.out _) 2 _ rfl) 1 _ rfl
    · have hee : (e == 0) = false := beq_eq_false_iff_ne.2 he
      go_enter Try.func75, Try.ntmps75
      go_wp2
      go_quiet ((go_at_call 36; exact Calls.quiet_of ((bits_Read.calls 40 A0 c0 l0 a n x _ _ (by repeat (first | exact HC.out | apply Kd.C_drewN | apply Kd.C_drew)) hc0 Hrd.out).mono (fun e w' h => ⟨h.1, h.2.out⟩))))
      go_wp2
      go_ret
      refine ⟨rfl, ?_, ?_⟩
      · repeat (first | exact Tk.refl _ _ | apply Tk.set | apply Tk.drewN)
      · exact blk_put (blk_drewN Hq.out _) 2 _ rfl
  · have hbb : (b != 0) = true := bne_iff_ne.2 hb
    have Ht : Aside0 (takeP l0 a b n = (0, a, b)) := ⟨by unfold takeP; rw [if_pos hb]⟩
    rw [Ht.out]
    go_enter Try.func75, Try.ntmps75
    go_wp2
    go_ret
    exact ⟨rfl, Tk.refl _ _, Hq.out⟩
end Go.Proofs.Ytjbpcffmeaadeaa.Pr
