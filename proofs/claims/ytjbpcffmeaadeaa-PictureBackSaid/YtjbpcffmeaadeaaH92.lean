import Derived.Test.YtjbpcffmeaadeaaH75
/- The contract of the iterator that the cursor's spare hands back. -/
namespace Go.Proofs.Ytjbpcffmeaadeaa.Pr
open Go.RowKit Go.Shelf Go.Proofs.YtjbpcffmeaadeaaW.PrintWords Go.Proofs.YtjbpcffmeaadeaaW.PrintLast Go.Proofs.YtjbpcffmeaadeaaW.PrintMore

/-- The spare bytes from a place on, and the cursor behind them: the bytes, the place, what went wrong. -/
def spP (l : List Int) : Nat → List Int → Int → Int → List Int × Int × Int
  | 0, acc, a, b => (acc, a, b)
  | f + 1, acc, a, b =>
    if (takeP l a b 1).1 = 1 then
      if acc.length = 32 then (acc, (takeP l a b 1).2.1, 4)
      else if (takeP l (takeP l a b 1).2.1 (takeP l a b 1).2.2 8).2.2 = 0 then
        spP l f (acc ++ [(takeP l (takeP l a b 1).2.1 (takeP l a b 1).2.2 8).1]) (takeP l (takeP l a b 1).2.1 (takeP l a b 1).2.2 8).2.1 0
      else (acc, (takeP l (takeP l a b 1).2.1 (takeP l a b 1).2.2 8).2.1, (takeP l (takeP l a b 1).2.1 (takeP l a b 1).2.2 8).2.2)
    else (acc, (takeP l a b 1).2.1, (takeP l a b 1).2.2)

theorem spP_stop {l : List Int} {acc : List Int} {a b x a1 b1 : Int} (h : takeP l a b 1 = (x, a1, b1)) (hx : x ≠ 1) (f : Nat) (hf : 0 < f) : spP l f acc a b = (acc, a1, b1) := by
  obtain ⟨f, rfl⟩ : ∃ q, f = q + 1 := ⟨f - 1, by omega⟩
  simp only [spP, h]
  rw [if_neg hx]
theorem spP_long {l : List Int} {acc : List Int} {a b a1 b1 : Int} (h : takeP l a b 1 = (1, a1, b1)) (hx : acc.length = 32) (f : Nat) (hf : 0 < f) : spP l f acc a b = (acc, a1, 4) := by
  obtain ⟨f, rfl⟩ : ∃ q, f = q + 1 := ⟨f - 1, by omega⟩
  simp only [spP, h, if_true]
  rw [if_pos hx]
theorem spP_bad {l : List Int} {acc : List Int} {a b a1 b1 y a2 b2 : Int} (h : takeP l a b 1 = (1, a1, b1)) (hx : acc.length ≠ 32) (h2 : takeP l a1 b1 8 = (y, a2, b2)) (hb : b2 ≠ 0) (f : Nat) (hf : 0 < f) : spP l f acc a b = (acc, a2, b2) := by
  obtain ⟨f, rfl⟩ : ∃ q, f = q + 1 := ⟨f - 1, by omega⟩
  simp only [spP, h, if_true, h2]
  rw [if_neg hx, if_neg hb]
theorem spP_more {l : List Int} {acc : List Int} {a b a1 b1 y a2 : Int} (h : takeP l a b 1 = (1, a1, b1)) (hx : acc.length ≠ 32) (h2 : takeP l a1 b1 8 = (y, a2, 0)) (f : Nat) : spP l (f + 1) acc a b = spP l f (acc ++ [y]) a2 0 := by
  simp only [spP, h, if_true, h2]
  rw [if_neg hx]
theorem takeP_byte {l : List Int} {a b y a2 : Int} (h : takeP l a b 8 = (y, a2, 0)) : 0 ≤ y ∧ y ≤ 255 := by
  unfold takeP at h
  split at h
  · rename_i hb
    simp only [Prod.mk.injEq] at h
    exact absurd h.2.2 hb
  · simp only [Prod.mk.injEq] at h
    obtain ⟨h1, h2, h3⟩ := h
    have := readP_zero (l := l) (a := a) (n := 8) (x := (readP l a 8).1) (by rw [← h3])
    have hr := numB_range l a.toNat (8 : Int).toNat
    rw [show (8 : Int).toNat = 8 from rfl] at hr this
    omega
theorem take_calls' {C : Nat} {A0 : Option Addr} {c0 : Nat} {l0 : List Int} {a b n : Int} {w : World} {x a' b' : Int} (hp : takeP l0 a b n = (x, a', b')) (hok : OkB l0) (hc0 : l0.length ≤ c0) (hC : Kd.C (Kd.int .u8) w A0 l0.length l0) (hq : Cur C A0 l0.length c0 a b w) :
    Calls Try.prog 75 #[.pointer (some ⟨C, 0, none⟩), .int .i64 n] w fun e w' => e = .returned (.int .i64 x) ∧ Tk C w w' ∧ Cur C A0 l0.length c0 a' b' w' := by
  have := take_calls C A0 c0 l0 a b n w hok hc0 hC hq
  rw [hp] at this
  exact this

attribute [local go_sem] Oper.semAt_some wide_fn wide_depth

set_option maxRecDepth 100000 in
set_option maxHeartbeats 2000000 in
theorem spare1_seq (Bc C : Nat) (A0 : Option Addr) (c0 : Nat) (l0 : List Int) (a0 b0 : Int) (hok : OkB l0) (hc0 : l0.length ≤ c0)
    (S : List Int → Int → Int → World → Prop)
    (hS : ∀ acc a b W, S acc a b W → Boxed W Bc 89 (.pointer (some ⟨C, 0, none⟩)) ∧ Cur C A0 l0.length c0 a b W ∧ Kd.C (Kd.int .u8) W A0 l0.length l0)
    (hT : ∀ acc a b a' b' W W', S acc a b W → Tk C W W' → Cur C A0 l0.length c0 a' b' W' → S acc a' b' W') :
    MySeq 92 #[.pointer (some ⟨Bc, 0, none⟩)] (fun x : List Int × Int × Int => #[Value.int .u8 x.2.1])
      (fun x W => S x.1 x.2.2 0 W ∧ x.1.length < 32 ∧ 0 ≤ x.2.1 ∧ x.2.1 ≤ 255) (fun x W => S (x.1 ++ [x.2.1]) x.2.2 0 W) (fun W => S [] a0 b0 W)
      (fun W => ∃ acc a b, S acc a b W ∧ spP l0 34 [] a0 b0 = (acc, a, b)) := by
  intro l Xr Jx W hX hY h0 hXr
  obtain ⟨hb0, hq0, hC0⟩ := hS _ _ _ _ h0
  have hcb := hb0.cell
  have Hq0 := Aside0.mk hq0
  have HC0 := Aside0.mk hC0
  clear hq0 hC0
  refine callsIn_of_wp Try.func92 rfl trivial ?_ rfl
  simp only [Try.ntmps92, List.size_toArray, List.length_cons, List.length_nil, Nat.reduceAdd, Nat.reduceSub, Array.replicate_succ, Array.replicate_zero, List.push_toArray, List.append_toArray, List.nil_append, List.cons_append]
  gi_wp2
  gi_loopw [4] (fun v4 wr => ∃ (acc : List Int) (a b : Int), v4 = .int .i64 (acc.length : Int) ∧ acc.length ≤ 32 ∧ Aside0 (S acc a b wr) ∧ Aside0 (Xr wr) ∧ Aside0 (spP l0 (34 - acc.length) acc a b = spP l0 34 [] a0 b0)) (fun v4 _ => 33 - (intOf v4).toNat)
  case atStart => exact ⟨[], a0, b0, rfl, by decide, ⟨h0⟩, ⟨hXr⟩, ⟨rfl⟩⟩
  case round =>
    obtain ⟨acc, a, b, rfl, hlen, HS, HX, HE⟩ := hrel
    obtain ⟨hb1, hq1, hC1⟩ := hS acc a b wr HS.out
    have hcb1 := hb1.cell
    have Hq1 := Aside0.mk hq1
    have HC1 := Aside0.mk hC1
    clear hb0 hcb Hq0 HC0 hq1 hC1 hb1
    obtain ⟨x1, a1, b1, ht1⟩ : ∃ x1 a1 b1, takeP l0 a b 1 = (x1, a1, b1) := ⟨_, _, _, rfl⟩
    have Hok := Aside0.mk hok
    clear hok
    have HT1 := Aside0.mk ht1
    clear ht1
    have HY := Aside0.mk hY
    clear hY hXr h0
    gi_wp2_with (fail)
    refine (callsIn_wide.2 (take_calls' HT1.out Hok.out hc0 HC1.out Hq1.out)).mono ?_
    rintro e w1 ⟨rfl, hk1, hq1⟩
    have HS1 := Aside0.mk (hT _ _ _ _ _ _ _ HS.out hk1 hq1)
    have HX1 := Aside0.mk (hX _ _ (hk1.keeps Hq1.out) HX.out)
    clear hk1 hq1 HC1 Hq1 hcb1
    obtain ⟨hb1, hq1, hC1⟩ := hS _ _ _ _ HS1.out
    have hcb1 := hb1.cell
    have hf2 := blk_frozen hq1 2
    have hp2 : w1.cell? ⟨C, 2, none⟩ = some (.int .i64 b1) := (blk_cell hq1 2).trans rfl
    have Hq1 := Aside0.mk hq1
    have HC1 := Aside0.mk hC1
    clear hb1 hq1 hC1
    by_cases hx1 : x1 = 1
    · subst hx1
      by_cases h32 : (acc.length : Int) = 32
      · have hb32 : ((acc.length : Int) == 32) = true := beq_iff_eq.2 h32
        gi_wp2
        (first | go_end0 | refine bodyPost_ret (results_none rfl _ _ _) rfl ?_)
        refine ⟨⟨_, rfl⟩, .inl ⟨⟨acc, a1, 4, hT _ _ _ _ _ _ _ HS1.out ((Tk.refl _ _).set 2 _) (blk_put Hq1.out 2 _ rfl), ?_⟩, hX _ _ (KeepsOthers.setCell _ _ _) HX1.out⟩⟩
        rw [← HE.out]
        exact spP_long HT1.out (by omega) _ (by omega)
      · have hb32 : ((acc.length : Int) == 32) = false := beq_eq_false_iff_ne.2 h32
        obtain ⟨y, a2, b2, ht2⟩ : ∃ y a2 b2, takeP l0 a1 b1 8 = (y, a2, b2) := ⟨_, _, _, rfl⟩
        have HT2 := Aside0.mk ht2
        clear ht2 hp2
        gi_wp2_with (fail)
        refine (callsIn_wide.2 (take_calls' HT2.out Hok.out hc0 HC1.out Hq1.out)).mono ?_
        rintro e w2 ⟨rfl, hk2, hq2⟩
        have HS2 := Aside0.mk (hT _ _ _ _ _ _ _ HS1.out hk2 hq2)
        have HX2 := Aside0.mk (hX _ _ (hk2.keeps Hq1.out) HX1.out)
        clear hk2 HC1 Hq1 hcb1 hf2
        obtain ⟨hb2, _, _⟩ := hS _ _ _ _ HS2.out
        have hcb2 := hb2.cell
        have hp2 : w2.cell? ⟨C, 2, none⟩ = some (.int .i64 b2) := (blk_cell hq2 2).trans rfl
        clear hb2 hq2
        by_cases hbad : b2 = 0
        · subst hbad
          have hyr := takeP_byte HT2.out
          have hw8 : IntKind.u8.wrap y = y := by rw [IntKind.wrap_u8]; omega
          have hw8' : y % 256 = y := by omega
          obtain ⟨fn, tmps, as_, bs_, hy, hyR⟩ := HY.out (acc, y, a2) w2 ⟨HS2.out, by simp only []; omega, hyr⟩ HX2.out
          have HR := Aside0.mk hyR
          clear hyR
          gi_wp2_with (fail)
          refine HR.out.mono ?_
          intro e W3 h3
          obtain ⟨bq, rfl, hb3⟩ := toB h3
          clear h3 hy HR
          rcases hb3.out with ⟨rfl, hJ3, hX3⟩ | ⟨rfl, hJx3⟩
          · have HJ3 := Aside0.mk hJ3
            have HX3 := Aside0.mk hX3
            clear hb3 hJ3 hX3
            gi_wp2
            go_roundw
            case rel => exact ⟨acc ++ [y], a2, 0, by simp, by simp; omega, ⟨HJ3.out⟩, ⟨HX3.out⟩, ⟨by rw [← HE.out, show 34 - acc.length = (34 - (acc ++ [y]).length) + 1 from by simp; omega, spP_more HT1.out (by omega) HT2.out]⟩⟩
            case measure => simp [intOf]; omega
          · have HJx3 := Aside0.mk hJx3
            clear hb3 hJx3
            gi_wp2
            (first | go_end0 | refine bodyPost_ret (results_none rfl _ _ _) rfl ?_)
            exact ⟨⟨_, rfl⟩, .inr ⟨_, HJx3.out⟩⟩
        · have hbb : (b2 != 0) = true := bne_iff_ne.2 hbad
          gi_wp2
          (first | go_end0 | refine bodyPost_ret (results_none rfl _ _ _) rfl ?_)
          refine ⟨⟨_, rfl⟩, .inl ⟨⟨acc, a2, b2, HS2.out, ?_⟩, HX2.out⟩⟩
          rw [← HE.out]
          exact spP_bad HT1.out (by omega) HT2.out hbad _ (by omega)
    · have hb1 : (x1 == 1) = false := beq_eq_false_iff_ne.2 hx1
      gi_wp2
      (first | go_end0 | refine bodyPost_ret (results_none rfl _ _ _) rfl ?_)
      refine ⟨⟨_, rfl⟩, .inl ⟨⟨acc, a1, b1, HS1.out, ?_⟩, HX1.out⟩⟩
      rw [← HE.out]
      exact spP_stop HT1.out hx1 _ (by omega)
end Go.Proofs.Ytjbpcffmeaadeaa.Pr
