import Derived.Test.YtjbpcffmeaadeaaP7
import Derived.Test.YtjbpcffmeaadeaaTopP2
/- The walk of PictureBack, by hand. -/
namespace Go.Proofs.Ytjbpcffmeaadeaa.Pp
open Go.RowKit Go.Proofs.Ytjbpcffmeaadeaa.Pr Go.Proofs.YtjbpcffmeaadeaaW.PrintWords Go.Proofs.YtjbpcffmeaadeaaW.PrintLast Go.Proofs.YtjbpcffmeaadeaaW.PrintMore
set_option linter.unusedVariables false

/-- The bits of bytes put one behind the other. -/
def pb (z : List Int) : Nat → List Int
  | 0 => []
  | n + 1 => pb z n ++ pd (z.getD n 0) 8
theorem pb_length (z : List Int) (n : Nat) : (pb z n).length = 8 * n := by
  induction n with
  | zero => rfl
  | succ n ih => simp [pb, ih, pd_length]; omega

/-- What PictureBack holds beside its pen: the header's box. -/
structure BB (w : World) (t ty : Int) (A : Option Addr) (n c : Nat) (g : Nat) (L : List Int) (W : World) : Prop where
  pen : Pn w g L W
  box : W.heap[w.heap.size]? = some (.cells #[.int .i64 t, .int .i64 ty, .slice A n c] 24 (0, 0))
theorem BB.next {w : World} {t ty : Int} {A : Option Addr} {n c g : Nat} {L : List Int} {W W' : World} (h : BB w t ty A n c g L W) (hb : Below W.heap.size W W') : BB w t ty A n c g L W' := ⟨h.pen.next hb, blk_below h.box hb⟩
theorem BB.same {w : World} {t ty : Int} {A : Option Addr} {n c g : Nat} {L L' : List Int} {W W' : World} (h : BB w t ty A n c g L W) (hp : Pn w g L' W') (hs : Pp.Same 5 71 W W') : BB w t ty A n c g L' W' := ⟨hp, hs.blk h.box (by decide) (by decide)⟩

attribute [local go_sem] max2_int min2_int max_two min_two
set_option maxHeartbeats 16000000 in
set_option maxRecDepth 100000 in
theorem back_walk (t ty : Int) (A0 : Option Addr) (c0 : Nat) (l0 : List Int) (a1 : Int) (A2 : Option Addr) (c2 : Nat) (l2 : List Int) (w : World) (m k : Nat) (x : ByteArray) (e : Int)
    (hC0 : Kd.C (Kd.int .u8) w A0 l0.length l0) (hc0 : l0.length ≤ c0) (hC2 : Kd.C (Kd.int .u8) w A2 l2.length l2) (hc2 : l2.length ≤ c2) (hb2 : OkB l2)
    (hk : praxinoscopelaw17_PictureKnown.f k = some true) (hm : praxinoscopekit_Pick.f a1 41 = some (m : Int)) (hm2 : m ≤ 40)
    (hp : l0.length ≤ 40 → picture_Put.f k t ty l0 = some (x, e)) (hbad : e ≠ 0 → x = ⟨#[]⟩ ∧ e = 2 ∧ picture_Check.f t ty l0 = some 2)
    (hgood : e = 0 → BinT x ∧ x.size = 12 + 9 * l0.length ∧ l0.length ≤ 32)
    (hfin : e = 0 → ∀ bs, Packs ((List.replicate m 1 ++ cd x x.size) ++ pb l2 l2.length) bs → praxinoscopelaw17_gets.f bs (m : Int) t ty l0 (x.size : Int) 0 = some true ∧ praxinoscopelaw17_gets.f (bs.take ((m + x.size - 1) / 8)) (m : Int) 0 0 [] 0 5 = some true) :
    Calls Try.prog 9 #[.agg #[.int .i64 t, .int .i64 ty, .slice A0 l0.length c0], .int .i64 a1, .slice A2 l2.length c2] w fun e w' => e = .returned (.bool true) ∧ Below w.heap.size w w' := by
  have hu24 := Try.underlying24
  have HC0 := Aside0.mk hC0
  have HC2 := Aside0.mk hC2
  have Hb2 := Aside0.mk hb2
  have Hk := Aside0.mk hk
  have Hm := Aside0.mk hm
  have Hp := Aside0.mk hp
  have Hbad := Aside0.mk hbad
  have Hgood := Aside0.mk hgood
  have Hfin := Aside0.mk hfin
  clear hC0 hC2 hb2 hk hm hp hbad hgood hfin
  have hlong : (decide ((l0.length : Int) > 40) = true) ∨ (decide ((l0.length : Int) > 40) = false ∧ decide ((l2.length : Int) > 20) = true) ∨ (l0.length ≤ 40 ∧ l2.length ≤ 20) := by
    by_cases h1 : (l0.length : Int) > 40
    · exact .inl (decide_eq_true h1)
    · by_cases h2 : (l2.length : Int) > 20
      · exact .inr (.inl ⟨decide_eq_false h1, decide_eq_true h2⟩)
      · exact .inr (.inr ⟨by omega, by omega⟩)
  go_enter Try.func9, Try.ntmps9
  go_wp2_with (fail)
  refine (praxinoscopelaw17_PictureKnown.calls k true _ Hk.out).mono ?_
  rintro e w1 ⟨rfl, hB⟩
  have HX := Aside0.mk (blk_below (blk_new w (Obj.cells #[.int .i64 t, .int .i64 ty, .slice A0 l0.length c0] 24)) hB)
  have HB := Aside0.mk (below_step (below_alloc (Below.refl _ _) _) hB)
  clear hB
  go_wp2_with (fail)
  refine (pn_new HB.out).mono ?_
  rintro e w2 ⟨rfl, hpn, hB⟩
  have HP := Aside0.mk (BB.mk hpn (blk_below HX.out hB))
  clear hpn hB HX HB
  have hx2 : w2.cell? ⟨w.heap.size, 2, none⟩ = some (.slice A0 l0.length c0) := (blk_cell HP.out.box 2).trans rfl
  obtain ⟨g, hg⟩ : ∃ g, w1.heap.size = g := ⟨_, rfl⟩
  rw [hg] at HP
  rcases hlong with h1 | ⟨h1, h2⟩ | ⟨h1, h2⟩
  · have h1' : decide (40 < (l0.length : Int)) = true := h1
    go_wp2
    go_ret
    exact ⟨rfl, HP.out.pen.below⟩
  · have h1' : decide (40 < (l0.length : Int)) = false := h1
    have h2' : decide (20 < (l2.length : Int)) = true := h2
    go_wp2
    go_ret
    exact ⟨rfl, HP.out.pen.below⟩
  · have h3 : decide ((l0.length : Int) > 40) = false := decide_eq_false (by omega)
    have h3' : decide (40 < (l0.length : Int)) = false := h3
    have h4 : decide ((l2.length : Int) > 20) = false := decide_eq_false (by omega)
    have h4' : decide (20 < (l2.length : Int)) = false := h4
    go_wp2_with (fail)
    refine (praxinoscopekit_Pick.calls a1 41 m _ Hm.out).mono ?_
    rintro e w3 ⟨rfl, hd⟩
    have m_ := Aside0.mk (HP.out.next (drawn_below hd)); clear HP hd; have HP := m_; clear m_ hx2
    go_wp2_with (fail)
    go_loopw [9] (fun v9 wr => ∃ i : Nat, v9 = .int .i64 (i : Int) ∧ i ≤ m ∧ Aside0 (BB w t ty A0 l0.length c0 g (List.replicate i 1) wr)) (fun v9 _ => m - (intOf v9).toNat)
    case atStart => exact ⟨0, rfl, by omega, HP⟩
    case round =>
      clear HP
      obtain ⟨i, rfl, hi, HR⟩ := hrel
      by_cases him : (i : Int) < (m : Int)
      · have hd : decide ((i : Int) < (m : Int)) = true := decide_eq_true him
        have hwi : IntKind.i64.wrap ((i : Int) + 1) = ((i + 1 : Nat) : Int) := by rw [IntKind.wrap_i64]; omega
        go_wp2_with (fail)
        refine (pn_put 1 1 HR.out.pen (by decide) (by decide) (by decide) (by decide) (by simp; omega)).mono ?_
        rintro e w5 ⟨rfl, hp, hs⟩
        have HR2 := Aside0.mk (HR.out.same hp hs)
        clear hp hs HR
        go_wp2
        go_roundw
        case rel => exact ⟨i + 1, rfl, by omega, ⟨by rw [List.replicate_succ']; exact HR2.out⟩⟩
        case measure => simp [intOf]; omega
      · have hd : decide ((i : Int) < (m : Int)) = false := decide_eq_false him
        obtain rfl : i = m := by omega
        have hx0 : wr.cell? ⟨w.heap.size, 0, none⟩ = some (.int .i64 t) := (blk_cell HR.out.box 0).trans rfl
        have hx1 : wr.cell? ⟨w.heap.size, 1, none⟩ = some (.int .i64 ty) := (blk_cell HR.out.box 1).trans rfl
        have hx2 : wr.cell? ⟨w.heap.size, 2, none⟩ = some (.slice A0 l0.length c0) := (blk_cell HR.out.box 2).trans rfl
        go_wp2_with (fail)
        refine (picture_Put.calls k t ty A0 c0 l0 x e _ (Kd.C_below HC0.out HR.out.pen.below) hc0 (Hp.out h1)).mono ?_
        rintro e_ w5 ⟨rfl, hd⟩
        have m_ := Aside0.mk (HR.out.next hd); clear HR hd hx0 hx1 hx2; have HR := m_; clear m_
        have hx0 : w5.cell? ⟨w.heap.size, 0, none⟩ = some (.int .i64 t) := (blk_cell HR.out.box 0).trans rfl
        have hx1 : w5.cell? ⟨w.heap.size, 1, none⟩ = some (.int .i64 ty) := (blk_cell HR.out.box 1).trans rfl
        have hx2 : w5.cell? ⟨w.heap.size, 2, none⟩ = some (.slice A0 l0.length c0) := (blk_cell HR.out.box 2).trans rfl
        by_cases he : e = 0
        · subst he
          obtain ⟨hbin, hsz, hn32⟩ := Hgood.out rfl
          have Hfin2 := Aside0.mk (Hfin.out rfl)
          clear Hgood Hfin Hbad Hp
          have h5 : decide ((l0.length : Int) > 32) = false := decide_eq_false (by omega)
          have h5' : decide (32 < (l0.length : Int)) = false := h5
          go_wp2_with (fail)
          refine (pn_code x HR.out.pen hbin (by omega) (by simp; omega)).mono ?_
          rintro e_ w6 ⟨rfl, hp, hs⟩
          have HR2 := Aside0.mk (HR.out.same hp hs)
          clear hp hs HR hx0 hx1 hx2
          have hx2 : w6.cell? ⟨w.heap.size, 2, none⟩ = some (.slice A0 l0.length c0) := (blk_cell HR2.out.box 2).trans rfl
          have hw9 : IntKind.i64.wrap (9 * (l0.length : Int)) = 9 * (l0.length : Int) := by rw [IntKind.wrap_i64]; omega
          have hw12 : IntKind.i64.wrap (12 + 9 * (l0.length : Int)) = 12 + 9 * (l0.length : Int) := by rw [IntKind.wrap_i64]; omega
          have hs1 : ((x.size : Int) != 12 + 9 * (l0.length : Int)) = false := bne_eq_false_iff_eq.2 (by omega)
          have hlen : (List.replicate i (1 : Int) ++ cd x x.size).length = i + x.size := by simp [cd_length]
          obtain ⟨N, hN⟩ : ∃ N, i + x.size = N := ⟨_, rfl⟩
          have hpl := pn_len HR2.out.pen
          rw [hlen, hN] at hpl
          have Hpl := Aside0.mk hpl
          clear hpl
          go_wp2_with (fail)
          refine Hpl.out.mono ?_
          rintro e_ w7 ⟨rfl, rfl⟩
          have hv1 : IntKind.i64.wrap ((N : Int) - 1) = (N : Int) - 1 := by rw [IntKind.wrap_i64]; omega
          obtain ⟨E, hE⟩ : ∃ E, (N - 1) / 8 = E := ⟨_, rfl⟩
          have hv2 : Int.tdiv ((N : Int) - 1) 8 = (E : Int) := by rw [Int.tdiv_eq_ediv_of_nonneg (by omega)]; omega
          have hv3 : IntKind.i64.wrap (E : Int) = (E : Int) := by rw [IntKind.wrap_i64]; omega
          clear Hpl hw9 hw12 hs1
          go_wp2_with (fail)
          go_loopw [13] (fun v13 wr => ∃ j : Nat, v13 = .int .i64 (j : Int) ∧ j ≤ l2.length ∧ Aside0 (BB w t ty A0 l0.length c0 g ((List.replicate i 1 ++ cd x x.size) ++ pb l2 j) wr)) (fun v13 _ => l2.length - (intOf v13).toNat)
          case atStart => exact ⟨0, rfl, by omega, ⟨by simpa [pb] using HR2.out⟩⟩
          case round =>
            clear HR2 hx2
            obtain ⟨j, rfl, hj, HR⟩ := hrel
            by_cases hjm : (j : Int) < (l2.length : Int)
            · have hd : decide ((j : Int) < (l2.length : Int)) = true := decide_eq_true hjm
              have hwi : IntKind.i64.wrap ((j : Int) + 1) = ((j + 1 : Nat) : Int) := by rw [IntKind.wrap_i64]; omega
              obtain ⟨ad, rfl, hcell⟩ := (Kd.reads_of_C (enc := Value.int .u8) (d := (0 : Int)) (h1 := fun _ => rfl) (Kd.C_below HC2.out HR.out.pen.below)).at_ (j : Int) (by omega) hjm
              have hjn : ((j : Int)).toNat = j := by omega
              have hy := Hb2.out.getD j
              have hrd : rdOf 0 l2 (j : Int) = l2.getD j 0 := by unfold rdOf; rw [hjn]
              rw [hrd, hjn] at hcell
              obtain ⟨y, hyy⟩ : ∃ y, l2.getD j 0 = y := ⟨_, rfl⟩
              rw [hyy] at hcell hy
              have Hyy := Aside0.mk hyy
              have hwy : IntKind.i64.wrap y = y := by rw [IntKind.wrap_i64]; omega
              clear hyy hrd
              go_wp2_with (fail)
              refine (pn_put y 8 HR.out.pen (by decide) (by omega) (by omega) (by omega) (by simp [cd_length, pb_length]; omega)).mono ?_
              rintro e_ w8 ⟨rfl, hp, hs⟩
              have HR3 := Aside0.mk (HR.out.same hp hs)
              clear hp hs HR hcell
              go_wp2
              go_roundw
              case rel => exact ⟨j + 1, rfl, by omega, ⟨by simp only [pb]; rw [Hyy.out, ← List.append_assoc]; exact HR3.out⟩⟩
              case measure => simp [intOf]; omega
            · have hd : decide ((j : Int) < (l2.length : Int)) = false := decide_eq_false hjm
              obtain rfl : j = l2.length := by omega
              go_wp2_with (fail)
              refine (pn_bytes HR.out.pen (by simp [cd_length, pb_length]; omega)).mono ?_
              rintro e_ w8 ⟨v1, bs1, rfl, hr1, hpk, hb8, hp⟩
              have HR3 := Aside0.mk (HR.out.next hb8)
              obtain ⟨A1, c1, rfl⟩ := Kd.R_slice hr1
              have HO1 := Aside0.mk hr1
              have hbl := hpk.len
              have hfin := Hfin2.out bs1 hpk
              have HF := Aside0.mk hfin
              have hEb : E ≤ bs1.length := by rw [hbl]; simp [cd_length, pb_length]; omega
              clear hr1 hpk hp hb8 HR hfin hbl
              have hx0 : w8.cell? ⟨w.heap.size, 0, none⟩ = some (.int .i64 t) := (blk_cell HR3.out.box 0).trans rfl
              have hx1 : w8.cell? ⟨w.heap.size, 1, none⟩ = some (.int .i64 ty) := (blk_cell HR3.out.box 1).trans rfl
              have hx2 : w8.cell? ⟨w.heap.size, 2, none⟩ = some (.slice A0 l0.length c0) := (blk_cell HR3.out.box 2).trans rfl
              have hxs : (x.size : Int) = 12 + 9 * (l0.length : Int) := by omega
              have hf1 := HF.out.1
              rw [hxs] at hf1
              have Hf1 := Aside0.mk hf1
              have hf2 := HF.out.2
              rw [hN, hE] at hf2
              have hEt : (bs1.take E).length = E := by rw [List.length_take]; omega
              have Hf2 := Aside0.mk hf2
              clear hf1 hf2 HF
              go_wp2_with (fail)
              refine (praxinoscopelaw17_gets.calls A1 c1 bs1 (i : Int) t ty A0 c0 l0 _ 0 true _ (Kd.R_reads' HO1.out).2.2 (Kd.R_reads' HO1.out).2.1 (Kd.C_below HC0.out HR3.out.pen.below) hc0 Hf1.out).mono ?_
              rintro e_ w9 ⟨rfl, hd9⟩
              have HR4 := Aside0.mk (HR3.out.next hd9)
              have HO2 := Aside0.mk (Kd.R_below HO1.out hd9)
              clear hd9 HR3 HO1 hx0 hx1 hx2 Hf1 hxs
              have hv8 : IntKind.i64.wrap ((E : Int) * 8) = (E : Int) * 8 := by rw [IntKind.wrap_i64]; omega
              have hlt8 : decide ((E : Int) * 8 < (i : Int)) = false := decide_eq_false (by omega)
              have hmin : ¬ ((bs1.length : Int) < (E : Int)) := by omega
              obtain ⟨i0, hi0, _, hsz0, _⟩ := info_parts info5
              have hcut := cut_to (P := Try.prog) 22 5 .i64 Try.underlying22 hi0 A1 bs1.length c1 (E : Int) (by omega) (by omega) (Kd.R_reads' HO2.out).2.1
              rw [show ((E : Int)).toNat = E from by omega] at hcut
              clear hi0 hsz0
              have HO3 := Aside0.mk (Kd.R_reads' (Kd.R_take (m := E) HO2.out hEb))
              have hg2 := praxinoscopelaw17_gets.calls A1 c1 (bs1.take E) (i : Int) 0 0 none 0 [] 0 5 true w9 HO3.out.2.2 (by rw [hEt]; exact HO3.out.2.1) (Kd.C_nil _ _) (by simp) Hf2.out
              rw [hEt] at hg2
              have Hg2 := Aside0.mk hg2
              clear hg2
              go_wp2_with (fail)
              refine Hg2.out.mono ?_
              rintro e_ w10 ⟨rfl, hd10⟩
              have HR5 := Aside0.mk (HR4.out.next hd10)
              clear hd10 HR4 HO2 HO3 Hg2
              go_wp2
              go_ret
              exact ⟨rfl, HR5.out.pen.below⟩
        · have heb : (e != 0) = true := bne_iff_ne.2 he
          obtain ⟨rfl, rfl, hck⟩ := Hbad.out he
          have Hck := Aside0.mk hck
          clear hck Hgood Hfin
          go_wp2_with (fail)
          refine (picture_Check.calls t ty A0 c0 l0 2 _ (Kd.C_below HC0.out HR.out.pen.below) hc0 Hck.out).mono ?_
          rintro e_ w6 ⟨rfl, hd⟩
          have m_ := Aside0.mk (HR.out.next hd); clear HR hd; have HR := m_; clear m_
          go_wp2
          go_ret
          exact ⟨rfl, HR.out.pen.below⟩
end Go.Proofs.Ytjbpcffmeaadeaa.Pp
