import Derived.Test.YtjbpcffmeaadeaaH4
/- The walk of PictureTells, by hand. -/
namespace Go.Proofs.Ytjbpcffmeaadeaa.Pr
open Go.RowKit Go.Proofs.YtjbpcffmeaadeaaW.PrintWords Go.Proofs.YtjbpcffmeaadeaaW.PrintLast Go.Proofs.YtjbpcffmeaadeaaW.PrintMore

/-- What lies in the law's own boxes: the header that came, at w's size, and the one with the lent bytes behind it. -/
structure BX (w : World) (t ty : Int) (A0 : Option Addr) (len c0 : Nat) (A1 : Option Addr) (cap base : Nat) (l0 : List Int) (W : World) : Prop where
  below : Below w.heap.size w W
  b1 : W.heap[w.heap.size]? = some (.cells #[.int .i64 t, .int .i64 ty, .slice A0 len c0] 24 (0, 0))
  b2 : W.heap[w.heap.size + 1]? = some (.cells #[.int .i64 t, .int .i64 ty, .slice A1 len cap] 24 (0, 0))
  lent : Kd.R (Kd.int .u8) 5 W base (fun _ => True) (.slice A1 (l0.length + 4) cap) (l0 ++ [201, 202, 203, 204])
theorem BX.step {w : World} {t ty : Int} {A0 : Option Addr} {len c0 : Nat} {A1 : Option Addr} {cap base : Nat} {l0 : List Int} {W W' : World} (h : BX w t ty A0 len c0 A1 cap base l0 W) (hb : Below W.heap.size W W') : BX w t ty A0 len c0 A1 cap base l0 W' :=
  ⟨below_step h.below hb, blk_below h.b1 hb, blk_below h.b2 hb, Kd.R_below h.lent hb⟩
theorem BX.cells {w : World} {t ty : Int} {A0 : Option Addr} {len c0 : Nat} {A1 : Option Addr} {cap base : Nat} {l0 : List Int} {W : World} (h : BX w t ty A0 len c0 A1 cap base l0 W) :
    W.cell? ⟨w.heap.size, 0, none⟩ = some (.int .i64 t) ∧ W.cell? ⟨w.heap.size, 1, none⟩ = some (.int .i64 ty) ∧ W.cell? ⟨w.heap.size, 2, none⟩ = some (.slice A0 len c0) ∧
    W.cell? ⟨w.heap.size + 1, 0, none⟩ = some (.int .i64 t) ∧ W.cell? ⟨w.heap.size + 1, 1, none⟩ = some (.int .i64 ty) ∧ W.cell? ⟨w.heap.size + 1, 2, none⟩ = some (.slice A1 len cap) :=
  ⟨(blk_cell h.b1 0).trans rfl, (blk_cell h.b1 1).trans rfl, (blk_cell h.b1 2).trans rfl, (blk_cell h.b2 0).trans rfl, (blk_cell h.b2 1).trans rfl, (blk_cell h.b2 2).trans rfl⟩

set_option maxHeartbeats 40000000 in
set_option maxRecDepth 100000 in
theorem PictureTells_calls (t ty : Int) (A0 : Option Addr) (c0 : Nat) (l0 : List Int) (w : World) (k : Nat) (x : ByteArray) (e chk fmt : Int) (hC : Kd.C (Kd.int .u8) w A0 l0.length l0) (hc0 : l0.length ≤ c0)
    (haw : praxinoscopelaw17_awake.f k = some true) (hp : l0.length ≤ 60 → picture_Put.f k t ty l0 = some (x, e)) (hq : l0.length ≤ 60 → praxinoscoperef17_Put.f k t ty l0 = some (x, e))
    (hc1 : picture_Check.f t ty l0 = some chk) (hc2 : praxinoscoperef17_Check.f t ty l0 = some chk) (hf1 : picture_Format.f t ty l0 = some fmt) (hf2 : praxinoscoperef17_Format.f t ty l0 = some fmt) :
    Calls Try.prog 3 #[.agg #[.int .i64 t, .int .i64 ty, .slice A0 l0.length c0]] w fun e w' => e = .returned (.bool true) ∧ Below w.heap.size w w' := by
  have hu24 := Try.underlying24
  by_cases h60 : (l0.length : Int) > 60
  · have hb : decide ((l0.length : Int) > 60) = true := decide_eq_true h60
    have hb' : decide (60 < (l0.length : Int)) = true := decide_eq_true h60
    go_enter Try.func3, Try.ntmps3
    go_wp2_with (fail)
    refine (praxinoscopelaw17_awake.calls k true _ haw).mono ?_
    rintro e w1 ⟨rfl, hB⟩
    have HB := Aside0.mk (below_step (below_alloc (Below.refl w.heap.size w) _) hB)
    clear hB
    go_wp2
    go_ret
    exact ⟨rfl, HB.out⟩
  · have hb : decide ((l0.length : Int) > 60) = false := decide_eq_false h60
    have hb' : decide (60 < (l0.length : Int)) = false := decide_eq_false h60
    have Haw := Aside0.mk haw
    have Hp := Aside0.mk (hp (by omega))
    have Hq := Aside0.mk (hq (by omega))
    have Hc1 := Aside0.mk hc1
    have Hc2 := Aside0.mk hc2
    have Hf1 := Aside0.mk hf1
    have Hf2 := Aside0.mk hf2
    have HC := Aside0.mk hC
    clear haw hp hq hc1 hc2 hf1 hf2 hC
    go_enter Try.func3, Try.ntmps3
    go_wp2_with (fail)
    obtain ⟨WA, hWA⟩ : ∃ W, (w.alloc (.cells #[.int .i64 t, .int .i64 ty, .slice A0 l0.length c0] 24)).alloc (.cells #[.int .i64 t, .int .i64 ty, .slice A0 l0.length c0] 24) = W := ⟨_, rfl⟩
    have hBA : Below w.heap.size w WA := by rw [← hWA]; exact below_alloc (below_alloc (Below.refl _ _) _) _
    have hzA : WA.heap.size = w.heap.size + 2 := by rw [← hWA]; simp
    have hA1 : WA.heap[w.heap.size]? = some (.cells #[.int .i64 t, .int .i64 ty, .slice A0 l0.length c0] 24 (0, 0)) := by rw [← hWA]; exact blk_alloc (blk_new _ _) _
    have hA2 : WA.heap[w.heap.size + 1]? = some (.cells #[.int .i64 t, .int .i64 ty, .slice A0 l0.length c0] 24 (0, 0)) := by
      rw [← hWA]; have := blk_new (w.alloc (.cells #[.int .i64 t, .int .i64 ty, .slice A0 l0.length c0] 24)) (.cells #[.int .i64 t, .int .i64 ty, .slice A0 l0.length c0] 24); rw [World.size_alloc] at this; exact this
    rw [hWA]
    clear hWA
    refine (lent_calls A0 c0 l0 WA (Kd.C_below HC.out hBA) hc0 (by omega)).mono ?_
    rintro e1 w1 ⟨A1, cap, rfl, hL1, hB1⟩
    have hx1 := blk_below hA1 hB1
    have hx2 := blk_below hA2 hB1
    have hf2 := blk_frozen hx2 2
    have hg2 : w1.cell? ⟨w.heap.size + 1, 2, none⟩ = some (.slice A0 l0.length c0) := (blk_cell hx2 2).trans rfl
    have HX := Aside0.mk (show BX w t ty A0 l0.length c0 A1 cap WA.heap.size l0 (w1.setCell ⟨w.heap.size + 1, 2, none⟩ (.slice A1 l0.length cap)) from
      ⟨Below.setCell (p := ⟨w.heap.size + 1, 2, none⟩) (below_step hBA hB1) (by simp) _, blk_far hx1 (by simp) _, blk_put hx2 2 _ rfl,
        Kd.R_mono (Kd.R_step (Kd.R_bound hL1) (fun k hk _ => Below.heap_setCell w1 _ _ k (by have := hk.2.1; simp; omega))) (fun _ _ => trivial)⟩)
    clear hL1 hB1 hx1 hx2 hBA hA1 hA2
    obtain ⟨g0, g1, g2, g3, g4, g5⟩ := HX.out.cells
    obtain ⟨base, hbase⟩ : ∃ base, WA.heap.size = base := ⟨_, rfl⟩
    rw [hbase] at HX
    clear hbase hzA
    go_wp2_with (fail)
    refine (picture_Put.calls k t ty A1 cap l0 x e _ (lent_C HX.out.lent).1 (lent_C HX.out.lent).2 Hp.out).mono ?_
    rintro e2 w2 ⟨rfl, hb2⟩
    have HY := Aside0.mk (HX.out.step hb2)
    clear HX hb2 g0 g1 g2 g3 g4 g5 hf2 hg2
    have HX := HY
    clear HY
    obtain ⟨g0, g1, g2, g3, g4, g5⟩ := HX.out.cells
    go_wp2_with (fail)
    refine (praxinoscoperef17_Put.calls k t ty A0 c0 l0 x e _ (Kd.C_below HC.out HX.out.below) hc0 Hq.out).mono ?_
    rintro e3 w3 ⟨rfl, hb3⟩
    have HY := Aside0.mk (HX.out.step (below_drew hb3))
    clear HX hb3 g0 g1 g2 g3 g4 g5
    have HX := HY
    clear HY
    obtain ⟨g0, g1, g2, g3, g4, g5⟩ := HX.out.cells
    go_wp2_with (fail)
    refine wp_region_any (by kernel_rfl) ?_
    change wpAny _ _ _ _ _ _ _ (World.drew _)
    refine wpAny_take (i := 0) (v := ?_) rfl (by kernel_rfl) (by kernel_rfl) (by kernel_rfl) (fun _ _ _ h => h) (Or.inl ⟨by rfl, ?h0⟩) ?_
    case h0 => (intro w_; go_simp; first | done | with_reducible rfl)
    go_simp
    refine wpAny_take (i := 1) (v := ?_) rfl (by kernel_rfl) (by kernel_rfl) (by kernel_rfl) (fun _ _ _ h => h) (Or.inl ⟨by rfl, ?h1⟩) ?_
    case h1 => (intro w_; go_simp; first | done | with_reducible rfl)
    go_simp
    refine wpAny_take (i := 2) (v := ?_) rfl (by kernel_rfl) (by kernel_rfl) (by kernel_rfl) (fun _ _ _ h => h) (Or.inl ⟨by rfl, ?h2⟩) ?_
    case h2 => (intro w_; go_simp; first | done | with_reducible rfl)
    go_simp
    refine wpAny_take (i := 3) (v := ?_) rfl (by kernel_rfl) (by kernel_rfl) (by kernel_rfl) (fun _ _ _ h => h) (Or.inl ⟨by rfl, ?h3⟩) ?_
    case h3 => (intro w_; go_simp; first | done | with_reducible rfl)
    go_simp
    refine wpAny_take (i := 4) (v := ?_) rfl (by kernel_rfl) (by kernel_rfl) (by kernel_rfl) (fun _ _ _ h => h) (Or.inl ⟨by rfl, ?h4⟩) ?_
    case h4 => (intro w_; go_simp; first | done | with_reducible rfl)
    go_simp
    refine wpAny_take (i := 5) (v := ?_) rfl (by kernel_rfl) (by kernel_rfl) (by kernel_rfl) (fun _ _ _ h => h) (Or.inl ⟨by rfl, ?h5⟩) ?_
    case h5 => (intro w_; go_simp; first | done | with_reducible rfl)
    go_simp
    refine wpAny_take (i := 6) (v := ?_) rfl (by kernel_rfl) (by kernel_rfl) (by kernel_rfl) (fun _ _ _ h => h) (Or.inl ⟨by rfl, ?h6⟩) ?_
    case h6 => (intro w_; go_simp; first | done | with_reducible rfl)
    go_simp
    refine wpAny_take (i := 7) (v := ?_) rfl (by kernel_rfl) (by kernel_rfl) (by kernel_rfl) (fun _ _ _ h => h) (Or.inl ⟨by rfl, ?h7⟩) ?_
    case h7 => (intro w_; go_simp; first | done | with_reducible rfl)
    go_simp
    refine wpAny_take (i := 8) (v := ?_) rfl (by kernel_rfl) (by kernel_rfl) (by kernel_rfl) (fun _ _ _ h => h) (Or.inl ⟨by rfl, ?h8⟩) ?_
    case h8 => (intro w_; go_simp; first | done | with_reducible rfl)
    go_simp
    refine wpAny_ready (rs := [9, 11]) (by kernel_rfl) (by simp) ?_
    refine AllReady.cons rfl (fun K hK => ?_) ?_
    · go_simp
      refine hK _ _ ?_
      clear hK K
      refine wpAny_ready (rs := [10, 11]) (by kernel_rfl) (by simp) ?_
      refine AllReady.cons rfl (fun K hK => ?_) ?_
      · go_simp
        go_wp2_with (fail)
        refine (picture_Check.calls t ty A1 cap l0 chk _ (lent_C HX.out.lent).1 (lent_C HX.out.lent).2 Hc1.out).mono ?_
        rintro e_ W1_ ⟨rfl, hb_⟩
        have HY := Aside0.mk (HX.out.step hb_)
        clear HX hb_ g0 g1 g2 g3 g4 g5
        have HX := HY
        clear HY
        obtain ⟨g0, g1, g2, g3, g4, g5⟩ := HX.out.cells
        go_simp
        refine hK _ _ ?_
        clear hK K
        refine wpAny_ready (rs := [11]) (by kernel_rfl) (by simp) ?_
        refine AllReady.cons rfl (fun K hK => ?_) AllReady.nil
        go_simp
        refine hK _ _ ?_
        clear hK K
        refine wpAny_ready (rs := [12]) (by kernel_rfl) (by simp) ?_
        refine AllReady.cons rfl (fun K hK => ?_) AllReady.nil
        go_simp
        go_wp2_with (fail)
        refine (praxinoscoperef17_Check.calls t ty A0 c0 l0 chk _ (Kd.C_below HC.out HX.out.below) hc0 Hc2.out).mono ?_
        rintro e_ W2_ ⟨rfl, hb_⟩
        have HY := Aside0.mk (HX.out.step hb_)
        clear HX hb_ g0 g1 g2 g3 g4 g5
        have HX := HY
        clear HY
        obtain ⟨g0, g1, g2, g3, g4, g5⟩ := HX.out.cells
        go_simp
        refine hK _ _ ?_
        clear hK K
        refine wpAny_take (i := 13) (v := ?_) rfl (by kernel_rfl) (by kernel_rfl) (by kernel_rfl) (fun _ _ _ h => h) (Or.inl ⟨by rfl, ?h13⟩) ?_
        case h13 => (intro w_; go_simp; first | done | with_reducible rfl)
        go_simp
        refine wpAny_take (i := 14) (v := ?_) rfl (by kernel_rfl) (by kernel_rfl) (by kernel_rfl) (fun _ _ _ h => h) (Or.inl ⟨by rfl, ?h14⟩) ?_
        case h14 => (intro w_; go_simp; first | done | with_reducible rfl)
        go_simp
        refine wpAny_take (i := 15) (v := ?_) rfl (by kernel_rfl) (by kernel_rfl) (by kernel_rfl) (fun _ _ _ h => h) (Or.inl ⟨by rfl, ?h15⟩) ?_
        case h15 => (intro w_; go_simp; first | done | with_reducible rfl)
        go_simp
        refine wpAny_ready (rs := [16, 18]) (by kernel_rfl) (by simp) ?_
        refine AllReady.cons rfl (fun K hK => ?_) ?_
        · go_simp
          refine hK _ _ ?_
          clear hK K
          refine wpAny_ready (rs := [17, 18]) (by kernel_rfl) (by simp) ?_
          refine AllReady.cons rfl (fun K hK => ?_) ?_
          · go_simp
            go_wp2_with (fail)
            refine (picture_Format.calls t ty A1 cap l0 fmt _ (lent_C HX.out.lent).1 (lent_C HX.out.lent).2 Hf1.out).mono ?_
            rintro e_ W3_ ⟨rfl, hb_⟩
            have HY := Aside0.mk (HX.out.step hb_)
            clear HX hb_ g0 g1 g2 g3 g4 g5
            have HX := HY
            clear HY
            obtain ⟨g0, g1, g2, g3, g4, g5⟩ := HX.out.cells
            go_simp
            refine hK _ _ ?_
            clear hK K
            refine wpAny_ready (rs := [18]) (by kernel_rfl) (by simp) ?_
            refine AllReady.cons rfl (fun K hK => ?_) AllReady.nil
            go_simp
            refine hK _ _ ?_
            clear hK K
            refine wpAny_ready (rs := [19]) (by kernel_rfl) (by simp) ?_
            refine AllReady.cons rfl (fun K hK => ?_) AllReady.nil
            go_simp
            go_wp2_with (fail)
            refine (praxinoscoperef17_Format.calls t ty A0 c0 l0 fmt _ (Kd.C_below HC.out HX.out.below) hc0 Hf2.out).mono ?_
            rintro e_ W4_ ⟨rfl, hb_⟩
            have HY := Aside0.mk (HX.out.step hb_)
            clear HX hb_ g0 g1 g2 g3 g4 g5
            have HX := HY
            clear HY
            obtain ⟨g0, g1, g2, g3, g4, g5⟩ := HX.out.cells
            go_simp
            refine hK _ _ ?_
            clear hK K
            refine wpAny_take (i := 20) (v := ?_) rfl (by kernel_rfl) (by kernel_rfl) (by kernel_rfl) (fun _ _ _ h => h) (Or.inl ⟨by rfl, ?h20⟩) ?_
            case h20 => (intro w_; go_simp; first | done | with_reducible rfl)
            go_simp
            refine wpAny_take (i := 21) (v := ?_) rfl (by kernel_rfl) (by kernel_rfl) (by kernel_rfl) (fun _ _ _ h => h) (Or.inl ⟨by rfl, ?h21⟩) ?_
            case h21 => (intro w_; go_simp; first | done | with_reducible rfl)
            go_simp
            refine wpAny_take (i := 22) (v := ?_) rfl (by kernel_rfl) (by kernel_rfl) (by kernel_rfl) (fun _ _ _ h => h) (Or.inl ⟨by rfl, ?h22⟩) ?_
            case h22 => (intro w_; go_simp; first | done | with_reducible rfl)
            go_simp
            refine wpAny_take (i := 23) (v := ?_) rfl (by kernel_rfl) (by kernel_rfl) (by kernel_rfl) (fun _ _ _ h => h) (Or.inl ⟨by rfl, ?h23⟩) ?_
            case h23 => (intro w_; go_simp; first | done | with_reducible rfl)
            go_simp
            refine wpAny_take (i := 25) (v := ?_) rfl (by kernel_rfl) (by kernel_rfl) (by kernel_rfl) (fun _ _ _ h => h) (Or.inl ⟨by rfl, ?h25⟩) ?_
            case h25 => (intro w_; go_simp; first | done | with_reducible rfl)
            go_simp
            refine wpAny_ready (rs := [24, 26]) (by kernel_rfl) (by simp) ?_
            refine AllReady.cons rfl (fun K hK => ?_) ?_
            · go_simp
              refine hK _ _ ?_
              clear hK K
              refine wpAny_ready (rs := [26]) (by kernel_rfl) (by simp) ?_
              refine AllReady.cons rfl (fun K hK => ?_) AllReady.nil
              go_simp
              refine hK _ _ ?_
              clear hK K
              refine wpAny_ready (rs := [27]) (by kernel_rfl) (by simp) ?_
              refine AllReady.cons rfl (fun K hK => ?_) AllReady.nil
              go_simp
              go_wp2_with (fail)
              refine (kept_calls A1 cap _ A0 c0 l0 _ HX.out.lent (Kd.C_below HC.out HX.out.below) hc0 (by omega)).mono ?_
              rintro e_ W5_ ⟨rfl, hb_⟩
              have HY := Aside0.mk (HX.out.step hb_)
              clear HX hb_ g0 g1 g2 g3 g4 g5
              have HX := HY
              clear HY
              obtain ⟨g0, g1, g2, g3, g4, g5⟩ := HX.out.cells
              go_simp
              refine hK _ _ ?_
              clear hK K
              refine wpAny_take (i := 28) (v := ?_) rfl (by kernel_rfl) (by kernel_rfl) (by kernel_rfl) (fun _ _ _ h => h) (Or.inl ⟨by rfl, ?h28⟩) ?_
              case h28 => (intro w_; go_simp; first | done | with_reducible rfl)
              go_simp
              refine wpAny_take (i := 29) (v := ?_) rfl (by kernel_rfl) (by kernel_rfl) (by kernel_rfl) (fun _ _ _ h => h) (Or.inl ⟨by rfl, ?h29⟩) ?_
              case h29 => (intro w_; go_simp; first | done | with_reducible rfl)
              go_simp
              refine wpAny_ready (rs := [30]) (by kernel_rfl) (by simp) ?_
              refine AllReady.cons rfl (fun K hK => ?_) AllReady.nil
              go_simp
              go_wp2_with (fail)
              refine (praxinoscopelaw17_awake.calls k true _ Haw.out).mono ?_
              rintro e_ W6_ ⟨rfl, hb_⟩
              have HY := Aside0.mk (HX.out.step hb_)
              clear HX hb_ g0 g1 g2 g3 g4 g5
              have HX := HY
              clear HY
              obtain ⟨g0, g1, g2, g3, g4, g5⟩ := HX.out.cells
              go_simp
              refine hK _ _ ?_
              clear hK K
              refine wpAny_take (i := 31) (v := ?_) rfl (by kernel_rfl) (by kernel_rfl) (by kernel_rfl) (fun _ _ _ h => h) (Or.inl ⟨by rfl, ?h31⟩) ?_
              case h31 => (intro w_; go_simp; first | done | with_reducible rfl)
              go_simp
              refine wpAny_take (i := 32) (v := ?_) rfl (by kernel_rfl) (by kernel_rfl) (by kernel_rfl) (fun _ _ _ h => h) (Or.inl ⟨by rfl, ?h32⟩) ?_
              case h32 => (intro w_; go_simp; first | done | with_reducible rfl)
              go_simp
              refine wpAny_done (by kernel_rfl) ?_ _
              go_wp2
              go_ret
              exact ⟨rfl, HX.out.below⟩
            refine AllReady.cons rfl (fun K hK => ?_) AllReady.nil
            go_simp
            refine hK _ _ ?_
            clear hK K
            refine wpAny_ready (rs := [24]) (by kernel_rfl) (by simp) ?_
            refine AllReady.cons rfl (fun K hK => ?_) AllReady.nil
            go_simp
            refine hK _ _ ?_
            clear hK K
            refine wpAny_ready (rs := [27]) (by kernel_rfl) (by simp) ?_
            refine AllReady.cons rfl (fun K hK => ?_) AllReady.nil
            go_simp
            go_wp2_with (fail)
            refine (kept_calls A1 cap _ A0 c0 l0 _ HX.out.lent (Kd.C_below HC.out HX.out.below) hc0 (by omega)).mono ?_
            rintro e_ W7_ ⟨rfl, hb_⟩
            have HY := Aside0.mk (HX.out.step hb_)
            clear HX hb_ g0 g1 g2 g3 g4 g5
            have HX := HY
            clear HY
            obtain ⟨g0, g1, g2, g3, g4, g5⟩ := HX.out.cells
            go_simp
            refine hK _ _ ?_
            clear hK K
            refine wpAny_take (i := 28) (v := ?_) rfl (by kernel_rfl) (by kernel_rfl) (by kernel_rfl) (fun _ _ _ h => h) (Or.inl ⟨by rfl, ?h28⟩) ?_
            case h28 => (intro w_; go_simp; first | done | with_reducible rfl)
            go_simp
            refine wpAny_take (i := 29) (v := ?_) rfl (by kernel_rfl) (by kernel_rfl) (by kernel_rfl) (fun _ _ _ h => h) (Or.inl ⟨by rfl, ?h29⟩) ?_
            case h29 => (intro w_; go_simp; first | done | with_reducible rfl)
            go_simp
            refine wpAny_ready (rs := [30]) (by kernel_rfl) (by simp) ?_
            refine AllReady.cons rfl (fun K hK => ?_) AllReady.nil
            go_simp
            go_wp2_with (fail)
            refine (praxinoscopelaw17_awake.calls k true _ Haw.out).mono ?_
            rintro e_ W8_ ⟨rfl, hb_⟩
            have HY := Aside0.mk (HX.out.step hb_)
            clear HX hb_ g0 g1 g2 g3 g4 g5
            have HX := HY
            clear HY
            obtain ⟨g0, g1, g2, g3, g4, g5⟩ := HX.out.cells
            go_simp
            refine hK _ _ ?_
            clear hK K
            refine wpAny_take (i := 31) (v := ?_) rfl (by kernel_rfl) (by kernel_rfl) (by kernel_rfl) (fun _ _ _ h => h) (Or.inl ⟨by rfl, ?h31⟩) ?_
            case h31 => (intro w_; go_simp; first | done | with_reducible rfl)
            go_simp
            refine wpAny_take (i := 32) (v := ?_) rfl (by kernel_rfl) (by kernel_rfl) (by kernel_rfl) (fun _ _ _ h => h) (Or.inl ⟨by rfl, ?h32⟩) ?_
            case h32 => (intro w_; go_simp; first | done | with_reducible rfl)
            go_simp
            refine wpAny_done (by kernel_rfl) ?_ _
            go_wp2
            go_ret
            exact ⟨rfl, HX.out.below⟩
          refine AllReady.cons rfl (fun K hK => ?_) AllReady.nil
          go_simp
          refine hK _ _ ?_
          clear hK K
          refine wpAny_ready (rs := [17]) (by kernel_rfl) (by simp) ?_
          refine AllReady.cons rfl (fun K hK => ?_) AllReady.nil
          go_simp
          go_wp2_with (fail)
          refine (picture_Format.calls t ty A1 cap l0 fmt _ (lent_C HX.out.lent).1 (lent_C HX.out.lent).2 Hf1.out).mono ?_
          rintro e_ W9_ ⟨rfl, hb_⟩
          have HY := Aside0.mk (HX.out.step hb_)
          clear HX hb_ g0 g1 g2 g3 g4 g5
          have HX := HY
          clear HY
          obtain ⟨g0, g1, g2, g3, g4, g5⟩ := HX.out.cells
          go_simp
          refine hK _ _ ?_
          clear hK K
          refine wpAny_ready (rs := [19]) (by kernel_rfl) (by simp) ?_
          refine AllReady.cons rfl (fun K hK => ?_) AllReady.nil
          go_simp
          go_wp2_with (fail)
          refine (praxinoscoperef17_Format.calls t ty A0 c0 l0 fmt _ (Kd.C_below HC.out HX.out.below) hc0 Hf2.out).mono ?_
          rintro e_ W10_ ⟨rfl, hb_⟩
          have HY := Aside0.mk (HX.out.step hb_)
          clear HX hb_ g0 g1 g2 g3 g4 g5
          have HX := HY
          clear HY
          obtain ⟨g0, g1, g2, g3, g4, g5⟩ := HX.out.cells
          go_simp
          refine hK _ _ ?_
          clear hK K
          refine wpAny_take (i := 20) (v := ?_) rfl (by kernel_rfl) (by kernel_rfl) (by kernel_rfl) (fun _ _ _ h => h) (Or.inl ⟨by rfl, ?h20⟩) ?_
          case h20 => (intro w_; go_simp; first | done | with_reducible rfl)
          go_simp
          refine wpAny_take (i := 21) (v := ?_) rfl (by kernel_rfl) (by kernel_rfl) (by kernel_rfl) (fun _ _ _ h => h) (Or.inl ⟨by rfl, ?h21⟩) ?_
          case h21 => (intro w_; go_simp; first | done | with_reducible rfl)
          go_simp
          refine wpAny_take (i := 22) (v := ?_) rfl (by kernel_rfl) (by kernel_rfl) (by kernel_rfl) (fun _ _ _ h => h) (Or.inl ⟨by rfl, ?h22⟩) ?_
          case h22 => (intro w_; go_simp; first | done | with_reducible rfl)
          go_simp
          refine wpAny_take (i := 23) (v := ?_) rfl (by kernel_rfl) (by kernel_rfl) (by kernel_rfl) (fun _ _ _ h => h) (Or.inl ⟨by rfl, ?h23⟩) ?_
          case h23 => (intro w_; go_simp; first | done | with_reducible rfl)
          go_simp
          refine wpAny_take (i := 25) (v := ?_) rfl (by kernel_rfl) (by kernel_rfl) (by kernel_rfl) (fun _ _ _ h => h) (Or.inl ⟨by rfl, ?h25⟩) ?_
          case h25 => (intro w_; go_simp; first | done | with_reducible rfl)
          go_simp
          refine wpAny_ready (rs := [24, 26]) (by kernel_rfl) (by simp) ?_
          refine AllReady.cons rfl (fun K hK => ?_) ?_
          · go_simp
            refine hK _ _ ?_
            clear hK K
            refine wpAny_ready (rs := [26]) (by kernel_rfl) (by simp) ?_
            refine AllReady.cons rfl (fun K hK => ?_) AllReady.nil
            go_simp
            refine hK _ _ ?_
            clear hK K
            refine wpAny_ready (rs := [27]) (by kernel_rfl) (by simp) ?_
            refine AllReady.cons rfl (fun K hK => ?_) AllReady.nil
            go_simp
            go_wp2_with (fail)
            refine (kept_calls A1 cap _ A0 c0 l0 _ HX.out.lent (Kd.C_below HC.out HX.out.below) hc0 (by omega)).mono ?_
            rintro e_ W11_ ⟨rfl, hb_⟩
            have HY := Aside0.mk (HX.out.step hb_)
            clear HX hb_ g0 g1 g2 g3 g4 g5
            have HX := HY
            clear HY
            obtain ⟨g0, g1, g2, g3, g4, g5⟩ := HX.out.cells
            go_simp
            refine hK _ _ ?_
            clear hK K
            refine wpAny_take (i := 28) (v := ?_) rfl (by kernel_rfl) (by kernel_rfl) (by kernel_rfl) (fun _ _ _ h => h) (Or.inl ⟨by rfl, ?h28⟩) ?_
            case h28 => (intro w_; go_simp; first | done | with_reducible rfl)
            go_simp
            refine wpAny_take (i := 29) (v := ?_) rfl (by kernel_rfl) (by kernel_rfl) (by kernel_rfl) (fun _ _ _ h => h) (Or.inl ⟨by rfl, ?h29⟩) ?_
            case h29 => (intro w_; go_simp; first | done | with_reducible rfl)
            go_simp
            refine wpAny_ready (rs := [30]) (by kernel_rfl) (by simp) ?_
            refine AllReady.cons rfl (fun K hK => ?_) AllReady.nil
            go_simp
            go_wp2_with (fail)
            refine (praxinoscopelaw17_awake.calls k true _ Haw.out).mono ?_
            rintro e_ W12_ ⟨rfl, hb_⟩
            have HY := Aside0.mk (HX.out.step hb_)
            clear HX hb_ g0 g1 g2 g3 g4 g5
            have HX := HY
            clear HY
            obtain ⟨g0, g1, g2, g3, g4, g5⟩ := HX.out.cells
            go_simp
            refine hK _ _ ?_
            clear hK K
            refine wpAny_take (i := 31) (v := ?_) rfl (by kernel_rfl) (by kernel_rfl) (by kernel_rfl) (fun _ _ _ h => h) (Or.inl ⟨by rfl, ?h31⟩) ?_
            case h31 => (intro w_; go_simp; first | done | with_reducible rfl)
            go_simp
            refine wpAny_take (i := 32) (v := ?_) rfl (by kernel_rfl) (by kernel_rfl) (by kernel_rfl) (fun _ _ _ h => h) (Or.inl ⟨by rfl, ?h32⟩) ?_
            case h32 => (intro w_; go_simp; first | done | with_reducible rfl)
            go_simp
            refine wpAny_done (by kernel_rfl) ?_ _
            go_wp2
            go_ret
            exact ⟨rfl, HX.out.below⟩
          refine AllReady.cons rfl (fun K hK => ?_) AllReady.nil
          go_simp
          refine hK _ _ ?_
          clear hK K
          refine wpAny_ready (rs := [24]) (by kernel_rfl) (by simp) ?_
          refine AllReady.cons rfl (fun K hK => ?_) AllReady.nil
          go_simp
          refine hK _ _ ?_
          clear hK K
          refine wpAny_ready (rs := [27]) (by kernel_rfl) (by simp) ?_
          refine AllReady.cons rfl (fun K hK => ?_) AllReady.nil
          go_simp
          go_wp2_with (fail)
          refine (kept_calls A1 cap _ A0 c0 l0 _ HX.out.lent (Kd.C_below HC.out HX.out.below) hc0 (by omega)).mono ?_
          rintro e_ W13_ ⟨rfl, hb_⟩
          have HY := Aside0.mk (HX.out.step hb_)
          clear HX hb_ g0 g1 g2 g3 g4 g5
          have HX := HY
          clear HY
          obtain ⟨g0, g1, g2, g3, g4, g5⟩ := HX.out.cells
          go_simp
          refine hK _ _ ?_
          clear hK K
          refine wpAny_take (i := 28) (v := ?_) rfl (by kernel_rfl) (by kernel_rfl) (by kernel_rfl) (fun _ _ _ h => h) (Or.inl ⟨by rfl, ?h28⟩) ?_
          case h28 => (intro w_; go_simp; first | done | with_reducible rfl)
          go_simp
          refine wpAny_take (i := 29) (v := ?_) rfl (by kernel_rfl) (by kernel_rfl) (by kernel_rfl) (fun _ _ _ h => h) (Or.inl ⟨by rfl, ?h29⟩) ?_
          case h29 => (intro w_; go_simp; first | done | with_reducible rfl)
          go_simp
          refine wpAny_ready (rs := [30]) (by kernel_rfl) (by simp) ?_
          refine AllReady.cons rfl (fun K hK => ?_) AllReady.nil
          go_simp
          go_wp2_with (fail)
          refine (praxinoscopelaw17_awake.calls k true _ Haw.out).mono ?_
          rintro e_ W14_ ⟨rfl, hb_⟩
          have HY := Aside0.mk (HX.out.step hb_)
          clear HX hb_ g0 g1 g2 g3 g4 g5
          have HX := HY
          clear HY
          obtain ⟨g0, g1, g2, g3, g4, g5⟩ := HX.out.cells
          go_simp
          refine hK _ _ ?_
          clear hK K
          refine wpAny_take (i := 31) (v := ?_) rfl (by kernel_rfl) (by kernel_rfl) (by kernel_rfl) (fun _ _ _ h => h) (Or.inl ⟨by rfl, ?h31⟩) ?_
          case h31 => (intro w_; go_simp; first | done | with_reducible rfl)
          go_simp
          refine wpAny_take (i := 32) (v := ?_) rfl (by kernel_rfl) (by kernel_rfl) (by kernel_rfl) (fun _ _ _ h => h) (Or.inl ⟨by rfl, ?h32⟩) ?_
          case h32 => (intro w_; go_simp; first | done | with_reducible rfl)
          go_simp
          refine wpAny_done (by kernel_rfl) ?_ _
          go_wp2
          go_ret
          exact ⟨rfl, HX.out.below⟩
        refine AllReady.cons rfl (fun K hK => ?_) AllReady.nil
        go_simp
        refine hK _ _ ?_
        clear hK K
        refine wpAny_ready (rs := [16]) (by kernel_rfl) (by simp) ?_
        refine AllReady.cons rfl (fun K hK => ?_) AllReady.nil
        go_simp
        refine hK _ _ ?_
        clear hK K
        refine wpAny_ready (rs := [17]) (by kernel_rfl) (by simp) ?_
        refine AllReady.cons rfl (fun K hK => ?_) AllReady.nil
        go_simp
        go_wp2_with (fail)
        refine (picture_Format.calls t ty A1 cap l0 fmt _ (lent_C HX.out.lent).1 (lent_C HX.out.lent).2 Hf1.out).mono ?_
        rintro e_ W15_ ⟨rfl, hb_⟩
        have HY := Aside0.mk (HX.out.step hb_)
        clear HX hb_ g0 g1 g2 g3 g4 g5
        have HX := HY
        clear HY
        obtain ⟨g0, g1, g2, g3, g4, g5⟩ := HX.out.cells
        go_simp
        refine hK _ _ ?_
        clear hK K
        refine wpAny_ready (rs := [19]) (by kernel_rfl) (by simp) ?_
        refine AllReady.cons rfl (fun K hK => ?_) AllReady.nil
        go_simp
        go_wp2_with (fail)
        refine (praxinoscoperef17_Format.calls t ty A0 c0 l0 fmt _ (Kd.C_below HC.out HX.out.below) hc0 Hf2.out).mono ?_
        rintro e_ W16_ ⟨rfl, hb_⟩
        have HY := Aside0.mk (HX.out.step hb_)
        clear HX hb_ g0 g1 g2 g3 g4 g5
        have HX := HY
        clear HY
        obtain ⟨g0, g1, g2, g3, g4, g5⟩ := HX.out.cells
        go_simp
        refine hK _ _ ?_
        clear hK K
        refine wpAny_take (i := 20) (v := ?_) rfl (by kernel_rfl) (by kernel_rfl) (by kernel_rfl) (fun _ _ _ h => h) (Or.inl ⟨by rfl, ?h20⟩) ?_
        case h20 => (intro w_; go_simp; first | done | with_reducible rfl)
        go_simp
        refine wpAny_take (i := 21) (v := ?_) rfl (by kernel_rfl) (by kernel_rfl) (by kernel_rfl) (fun _ _ _ h => h) (Or.inl ⟨by rfl, ?h21⟩) ?_
        case h21 => (intro w_; go_simp; first | done | with_reducible rfl)
        go_simp
        refine wpAny_take (i := 22) (v := ?_) rfl (by kernel_rfl) (by kernel_rfl) (by kernel_rfl) (fun _ _ _ h => h) (Or.inl ⟨by rfl, ?h22⟩) ?_
        case h22 => (intro w_; go_simp; first | done | with_reducible rfl)
        go_simp
        refine wpAny_take (i := 23) (v := ?_) rfl (by kernel_rfl) (by kernel_rfl) (by kernel_rfl) (fun _ _ _ h => h) (Or.inl ⟨by rfl, ?h23⟩) ?_
        case h23 => (intro w_; go_simp; first | done | with_reducible rfl)
        go_simp
        refine wpAny_take (i := 25) (v := ?_) rfl (by kernel_rfl) (by kernel_rfl) (by kernel_rfl) (fun _ _ _ h => h) (Or.inl ⟨by rfl, ?h25⟩) ?_
        case h25 => (intro w_; go_simp; first | done | with_reducible rfl)
        go_simp
        refine wpAny_ready (rs := [24, 26]) (by kernel_rfl) (by simp) ?_
        refine AllReady.cons rfl (fun K hK => ?_) ?_
        · go_simp
          refine hK _ _ ?_
          clear hK K
          refine wpAny_ready (rs := [26]) (by kernel_rfl) (by simp) ?_
          refine AllReady.cons rfl (fun K hK => ?_) AllReady.nil
          go_simp
          refine hK _ _ ?_
          clear hK K
          refine wpAny_ready (rs := [27]) (by kernel_rfl) (by simp) ?_
          refine AllReady.cons rfl (fun K hK => ?_) AllReady.nil
          go_simp
          go_wp2_with (fail)
          refine (kept_calls A1 cap _ A0 c0 l0 _ HX.out.lent (Kd.C_below HC.out HX.out.below) hc0 (by omega)).mono ?_
          rintro e_ W17_ ⟨rfl, hb_⟩
          have HY := Aside0.mk (HX.out.step hb_)
          clear HX hb_ g0 g1 g2 g3 g4 g5
          have HX := HY
          clear HY
          obtain ⟨g0, g1, g2, g3, g4, g5⟩ := HX.out.cells
          go_simp
          refine hK _ _ ?_
          clear hK K
          refine wpAny_take (i := 28) (v := ?_) rfl (by kernel_rfl) (by kernel_rfl) (by kernel_rfl) (fun _ _ _ h => h) (Or.inl ⟨by rfl, ?h28⟩) ?_
          case h28 => (intro w_; go_simp; first | done | with_reducible rfl)
          go_simp
          refine wpAny_take (i := 29) (v := ?_) rfl (by kernel_rfl) (by kernel_rfl) (by kernel_rfl) (fun _ _ _ h => h) (Or.inl ⟨by rfl, ?h29⟩) ?_
          case h29 => (intro w_; go_simp; first | done | with_reducible rfl)
          go_simp
          refine wpAny_ready (rs := [30]) (by kernel_rfl) (by simp) ?_
          refine AllReady.cons rfl (fun K hK => ?_) AllReady.nil
          go_simp
          go_wp2_with (fail)
          refine (praxinoscopelaw17_awake.calls k true _ Haw.out).mono ?_
          rintro e_ W18_ ⟨rfl, hb_⟩
          have HY := Aside0.mk (HX.out.step hb_)
          clear HX hb_ g0 g1 g2 g3 g4 g5
          have HX := HY
          clear HY
          obtain ⟨g0, g1, g2, g3, g4, g5⟩ := HX.out.cells
          go_simp
          refine hK _ _ ?_
          clear hK K
          refine wpAny_take (i := 31) (v := ?_) rfl (by kernel_rfl) (by kernel_rfl) (by kernel_rfl) (fun _ _ _ h => h) (Or.inl ⟨by rfl, ?h31⟩) ?_
          case h31 => (intro w_; go_simp; first | done | with_reducible rfl)
          go_simp
          refine wpAny_take (i := 32) (v := ?_) rfl (by kernel_rfl) (by kernel_rfl) (by kernel_rfl) (fun _ _ _ h => h) (Or.inl ⟨by rfl, ?h32⟩) ?_
          case h32 => (intro w_; go_simp; first | done | with_reducible rfl)
          go_simp
          refine wpAny_done (by kernel_rfl) ?_ _
          go_wp2
          go_ret
          exact ⟨rfl, HX.out.below⟩
        refine AllReady.cons rfl (fun K hK => ?_) AllReady.nil
        go_simp
        refine hK _ _ ?_
        clear hK K
        refine wpAny_ready (rs := [24]) (by kernel_rfl) (by simp) ?_
        refine AllReady.cons rfl (fun K hK => ?_) AllReady.nil
        go_simp
        refine hK _ _ ?_
        clear hK K
        refine wpAny_ready (rs := [27]) (by kernel_rfl) (by simp) ?_
        refine AllReady.cons rfl (fun K hK => ?_) AllReady.nil
        go_simp
        go_wp2_with (fail)
        refine (kept_calls A1 cap _ A0 c0 l0 _ HX.out.lent (Kd.C_below HC.out HX.out.below) hc0 (by omega)).mono ?_
        rintro e_ W19_ ⟨rfl, hb_⟩
        have HY := Aside0.mk (HX.out.step hb_)
        clear HX hb_ g0 g1 g2 g3 g4 g5
        have HX := HY
        clear HY
        obtain ⟨g0, g1, g2, g3, g4, g5⟩ := HX.out.cells
        go_simp
        refine hK _ _ ?_
        clear hK K
        refine wpAny_take (i := 28) (v := ?_) rfl (by kernel_rfl) (by kernel_rfl) (by kernel_rfl) (fun _ _ _ h => h) (Or.inl ⟨by rfl, ?h28⟩) ?_
        case h28 => (intro w_; go_simp; first | done | with_reducible rfl)
        go_simp
        refine wpAny_take (i := 29) (v := ?_) rfl (by kernel_rfl) (by kernel_rfl) (by kernel_rfl) (fun _ _ _ h => h) (Or.inl ⟨by rfl, ?h29⟩) ?_
        case h29 => (intro w_; go_simp; first | done | with_reducible rfl)
        go_simp
        refine wpAny_ready (rs := [30]) (by kernel_rfl) (by simp) ?_
        refine AllReady.cons rfl (fun K hK => ?_) AllReady.nil
        go_simp
        go_wp2_with (fail)
        refine (praxinoscopelaw17_awake.calls k true _ Haw.out).mono ?_
        rintro e_ W20_ ⟨rfl, hb_⟩
        have HY := Aside0.mk (HX.out.step hb_)
        clear HX hb_ g0 g1 g2 g3 g4 g5
        have HX := HY
        clear HY
        obtain ⟨g0, g1, g2, g3, g4, g5⟩ := HX.out.cells
        go_simp
        refine hK _ _ ?_
        clear hK K
        refine wpAny_take (i := 31) (v := ?_) rfl (by kernel_rfl) (by kernel_rfl) (by kernel_rfl) (fun _ _ _ h => h) (Or.inl ⟨by rfl, ?h31⟩) ?_
        case h31 => (intro w_; go_simp; first | done | with_reducible rfl)
        go_simp
        refine wpAny_take (i := 32) (v := ?_) rfl (by kernel_rfl) (by kernel_rfl) (by kernel_rfl) (fun _ _ _ h => h) (Or.inl ⟨by rfl, ?h32⟩) ?_
        case h32 => (intro w_; go_simp; first | done | with_reducible rfl)
        go_simp
        refine wpAny_done (by kernel_rfl) ?_ _
        go_wp2
        go_ret
        exact ⟨rfl, HX.out.below⟩
      refine AllReady.cons rfl (fun K hK => ?_) AllReady.nil
      go_simp
      refine hK _ _ ?_
      clear hK K
      refine wpAny_ready (rs := [10]) (by kernel_rfl) (by simp) ?_
      refine AllReady.cons rfl (fun K hK => ?_) AllReady.nil
      go_simp
      go_wp2_with (fail)
      refine (picture_Check.calls t ty A1 cap l0 chk _ (lent_C HX.out.lent).1 (lent_C HX.out.lent).2 Hc1.out).mono ?_
      rintro e_ W21_ ⟨rfl, hb_⟩
      have HY := Aside0.mk (HX.out.step hb_)
      clear HX hb_ g0 g1 g2 g3 g4 g5
      have HX := HY
      clear HY
      obtain ⟨g0, g1, g2, g3, g4, g5⟩ := HX.out.cells
      go_simp
      refine hK _ _ ?_
      clear hK K
      refine wpAny_ready (rs := [12]) (by kernel_rfl) (by simp) ?_
      refine AllReady.cons rfl (fun K hK => ?_) AllReady.nil
      go_simp
      go_wp2_with (fail)
      refine (praxinoscoperef17_Check.calls t ty A0 c0 l0 chk _ (Kd.C_below HC.out HX.out.below) hc0 Hc2.out).mono ?_
      rintro e_ W22_ ⟨rfl, hb_⟩
      have HY := Aside0.mk (HX.out.step hb_)
      clear HX hb_ g0 g1 g2 g3 g4 g5
      have HX := HY
      clear HY
      obtain ⟨g0, g1, g2, g3, g4, g5⟩ := HX.out.cells
      go_simp
      refine hK _ _ ?_
      clear hK K
      refine wpAny_take (i := 13) (v := ?_) rfl (by kernel_rfl) (by kernel_rfl) (by kernel_rfl) (fun _ _ _ h => h) (Or.inl ⟨by rfl, ?h13⟩) ?_
      case h13 => (intro w_; go_simp; first | done | with_reducible rfl)
      go_simp
      refine wpAny_take (i := 14) (v := ?_) rfl (by kernel_rfl) (by kernel_rfl) (by kernel_rfl) (fun _ _ _ h => h) (Or.inl ⟨by rfl, ?h14⟩) ?_
      case h14 => (intro w_; go_simp; first | done | with_reducible rfl)
      go_simp
      refine wpAny_take (i := 15) (v := ?_) rfl (by kernel_rfl) (by kernel_rfl) (by kernel_rfl) (fun _ _ _ h => h) (Or.inl ⟨by rfl, ?h15⟩) ?_
      case h15 => (intro w_; go_simp; first | done | with_reducible rfl)
      go_simp
      refine wpAny_ready (rs := [16, 18]) (by kernel_rfl) (by simp) ?_
      refine AllReady.cons rfl (fun K hK => ?_) ?_
      · go_simp
        refine hK _ _ ?_
        clear hK K
        refine wpAny_ready (rs := [17, 18]) (by kernel_rfl) (by simp) ?_
        refine AllReady.cons rfl (fun K hK => ?_) ?_
        · go_simp
          go_wp2_with (fail)
          refine (picture_Format.calls t ty A1 cap l0 fmt _ (lent_C HX.out.lent).1 (lent_C HX.out.lent).2 Hf1.out).mono ?_
          rintro e_ W23_ ⟨rfl, hb_⟩
          have HY := Aside0.mk (HX.out.step hb_)
          clear HX hb_ g0 g1 g2 g3 g4 g5
          have HX := HY
          clear HY
          obtain ⟨g0, g1, g2, g3, g4, g5⟩ := HX.out.cells
          go_simp
          refine hK _ _ ?_
          clear hK K
          refine wpAny_ready (rs := [18]) (by kernel_rfl) (by simp) ?_
          refine AllReady.cons rfl (fun K hK => ?_) AllReady.nil
          go_simp
          refine hK _ _ ?_
          clear hK K
          refine wpAny_ready (rs := [19]) (by kernel_rfl) (by simp) ?_
          refine AllReady.cons rfl (fun K hK => ?_) AllReady.nil
          go_simp
          go_wp2_with (fail)
          refine (praxinoscoperef17_Format.calls t ty A0 c0 l0 fmt _ (Kd.C_below HC.out HX.out.below) hc0 Hf2.out).mono ?_
          rintro e_ W24_ ⟨rfl, hb_⟩
          have HY := Aside0.mk (HX.out.step hb_)
          clear HX hb_ g0 g1 g2 g3 g4 g5
          have HX := HY
          clear HY
          obtain ⟨g0, g1, g2, g3, g4, g5⟩ := HX.out.cells
          go_simp
          refine hK _ _ ?_
          clear hK K
          refine wpAny_take (i := 20) (v := ?_) rfl (by kernel_rfl) (by kernel_rfl) (by kernel_rfl) (fun _ _ _ h => h) (Or.inl ⟨by rfl, ?h20⟩) ?_
          case h20 => (intro w_; go_simp; first | done | with_reducible rfl)
          go_simp
          refine wpAny_take (i := 21) (v := ?_) rfl (by kernel_rfl) (by kernel_rfl) (by kernel_rfl) (fun _ _ _ h => h) (Or.inl ⟨by rfl, ?h21⟩) ?_
          case h21 => (intro w_; go_simp; first | done | with_reducible rfl)
          go_simp
          refine wpAny_take (i := 22) (v := ?_) rfl (by kernel_rfl) (by kernel_rfl) (by kernel_rfl) (fun _ _ _ h => h) (Or.inl ⟨by rfl, ?h22⟩) ?_
          case h22 => (intro w_; go_simp; first | done | with_reducible rfl)
          go_simp
          refine wpAny_take (i := 23) (v := ?_) rfl (by kernel_rfl) (by kernel_rfl) (by kernel_rfl) (fun _ _ _ h => h) (Or.inl ⟨by rfl, ?h23⟩) ?_
          case h23 => (intro w_; go_simp; first | done | with_reducible rfl)
          go_simp
          refine wpAny_take (i := 25) (v := ?_) rfl (by kernel_rfl) (by kernel_rfl) (by kernel_rfl) (fun _ _ _ h => h) (Or.inl ⟨by rfl, ?h25⟩) ?_
          case h25 => (intro w_; go_simp; first | done | with_reducible rfl)
          go_simp
          refine wpAny_ready (rs := [24, 26]) (by kernel_rfl) (by simp) ?_
          refine AllReady.cons rfl (fun K hK => ?_) ?_
          · go_simp
            refine hK _ _ ?_
            clear hK K
            refine wpAny_ready (rs := [26]) (by kernel_rfl) (by simp) ?_
            refine AllReady.cons rfl (fun K hK => ?_) AllReady.nil
            go_simp
            refine hK _ _ ?_
            clear hK K
            refine wpAny_ready (rs := [27]) (by kernel_rfl) (by simp) ?_
            refine AllReady.cons rfl (fun K hK => ?_) AllReady.nil
            go_simp
            go_wp2_with (fail)
            refine (kept_calls A1 cap _ A0 c0 l0 _ HX.out.lent (Kd.C_below HC.out HX.out.below) hc0 (by omega)).mono ?_
            rintro e_ W25_ ⟨rfl, hb_⟩
            have HY := Aside0.mk (HX.out.step hb_)
            clear HX hb_ g0 g1 g2 g3 g4 g5
            have HX := HY
            clear HY
            obtain ⟨g0, g1, g2, g3, g4, g5⟩ := HX.out.cells
            go_simp
            refine hK _ _ ?_
            clear hK K
            refine wpAny_take (i := 28) (v := ?_) rfl (by kernel_rfl) (by kernel_rfl) (by kernel_rfl) (fun _ _ _ h => h) (Or.inl ⟨by rfl, ?h28⟩) ?_
            case h28 => (intro w_; go_simp; first | done | with_reducible rfl)
            go_simp
            refine wpAny_take (i := 29) (v := ?_) rfl (by kernel_rfl) (by kernel_rfl) (by kernel_rfl) (fun _ _ _ h => h) (Or.inl ⟨by rfl, ?h29⟩) ?_
            case h29 => (intro w_; go_simp; first | done | with_reducible rfl)
            go_simp
            refine wpAny_ready (rs := [30]) (by kernel_rfl) (by simp) ?_
            refine AllReady.cons rfl (fun K hK => ?_) AllReady.nil
            go_simp
            go_wp2_with (fail)
            refine (praxinoscopelaw17_awake.calls k true _ Haw.out).mono ?_
            rintro e_ W26_ ⟨rfl, hb_⟩
            have HY := Aside0.mk (HX.out.step hb_)
            clear HX hb_ g0 g1 g2 g3 g4 g5
            have HX := HY
            clear HY
            obtain ⟨g0, g1, g2, g3, g4, g5⟩ := HX.out.cells
            go_simp
            refine hK _ _ ?_
            clear hK K
            refine wpAny_take (i := 31) (v := ?_) rfl (by kernel_rfl) (by kernel_rfl) (by kernel_rfl) (fun _ _ _ h => h) (Or.inl ⟨by rfl, ?h31⟩) ?_
            case h31 => (intro w_; go_simp; first | done | with_reducible rfl)
            go_simp
            refine wpAny_take (i := 32) (v := ?_) rfl (by kernel_rfl) (by kernel_rfl) (by kernel_rfl) (fun _ _ _ h => h) (Or.inl ⟨by rfl, ?h32⟩) ?_
            case h32 => (intro w_; go_simp; first | done | with_reducible rfl)
            go_simp
            refine wpAny_done (by kernel_rfl) ?_ _
            go_wp2
            go_ret
            exact ⟨rfl, HX.out.below⟩
          refine AllReady.cons rfl (fun K hK => ?_) AllReady.nil
          go_simp
          refine hK _ _ ?_
          clear hK K
          refine wpAny_ready (rs := [24]) (by kernel_rfl) (by simp) ?_
          refine AllReady.cons rfl (fun K hK => ?_) AllReady.nil
          go_simp
          refine hK _ _ ?_
          clear hK K
          refine wpAny_ready (rs := [27]) (by kernel_rfl) (by simp) ?_
          refine AllReady.cons rfl (fun K hK => ?_) AllReady.nil
          go_simp
          go_wp2_with (fail)
          refine (kept_calls A1 cap _ A0 c0 l0 _ HX.out.lent (Kd.C_below HC.out HX.out.below) hc0 (by omega)).mono ?_
          rintro e_ W27_ ⟨rfl, hb_⟩
          have HY := Aside0.mk (HX.out.step hb_)
          clear HX hb_ g0 g1 g2 g3 g4 g5
          have HX := HY
          clear HY
          obtain ⟨g0, g1, g2, g3, g4, g5⟩ := HX.out.cells
          go_simp
          refine hK _ _ ?_
          clear hK K
          refine wpAny_take (i := 28) (v := ?_) rfl (by kernel_rfl) (by kernel_rfl) (by kernel_rfl) (fun _ _ _ h => h) (Or.inl ⟨by rfl, ?h28⟩) ?_
          case h28 => (intro w_; go_simp; first | done | with_reducible rfl)
          go_simp
          refine wpAny_take (i := 29) (v := ?_) rfl (by kernel_rfl) (by kernel_rfl) (by kernel_rfl) (fun _ _ _ h => h) (Or.inl ⟨by rfl, ?h29⟩) ?_
          case h29 => (intro w_; go_simp; first | done | with_reducible rfl)
          go_simp
          refine wpAny_ready (rs := [30]) (by kernel_rfl) (by simp) ?_
          refine AllReady.cons rfl (fun K hK => ?_) AllReady.nil
          go_simp
          go_wp2_with (fail)
          refine (praxinoscopelaw17_awake.calls k true _ Haw.out).mono ?_
          rintro e_ W28_ ⟨rfl, hb_⟩
          have HY := Aside0.mk (HX.out.step hb_)
          clear HX hb_ g0 g1 g2 g3 g4 g5
          have HX := HY
          clear HY
          obtain ⟨g0, g1, g2, g3, g4, g5⟩ := HX.out.cells
          go_simp
          refine hK _ _ ?_
          clear hK K
          refine wpAny_take (i := 31) (v := ?_) rfl (by kernel_rfl) (by kernel_rfl) (by kernel_rfl) (fun _ _ _ h => h) (Or.inl ⟨by rfl, ?h31⟩) ?_
          case h31 => (intro w_; go_simp; first | done | with_reducible rfl)
          go_simp
          refine wpAny_take (i := 32) (v := ?_) rfl (by kernel_rfl) (by kernel_rfl) (by kernel_rfl) (fun _ _ _ h => h) (Or.inl ⟨by rfl, ?h32⟩) ?_
          case h32 => (intro w_; go_simp; first | done | with_reducible rfl)
          go_simp
          refine wpAny_done (by kernel_rfl) ?_ _
          go_wp2
          go_ret
          exact ⟨rfl, HX.out.below⟩
        refine AllReady.cons rfl (fun K hK => ?_) AllReady.nil
        go_simp
        refine hK _ _ ?_
        clear hK K
        refine wpAny_ready (rs := [17]) (by kernel_rfl) (by simp) ?_
        refine AllReady.cons rfl (fun K hK => ?_) AllReady.nil
        go_simp
        go_wp2_with (fail)
        refine (picture_Format.calls t ty A1 cap l0 fmt _ (lent_C HX.out.lent).1 (lent_C HX.out.lent).2 Hf1.out).mono ?_
        rintro e_ W29_ ⟨rfl, hb_⟩
        have HY := Aside0.mk (HX.out.step hb_)
        clear HX hb_ g0 g1 g2 g3 g4 g5
        have HX := HY
        clear HY
        obtain ⟨g0, g1, g2, g3, g4, g5⟩ := HX.out.cells
        go_simp
        refine hK _ _ ?_
        clear hK K
        refine wpAny_ready (rs := [19]) (by kernel_rfl) (by simp) ?_
        refine AllReady.cons rfl (fun K hK => ?_) AllReady.nil
        go_simp
        go_wp2_with (fail)
        refine (praxinoscoperef17_Format.calls t ty A0 c0 l0 fmt _ (Kd.C_below HC.out HX.out.below) hc0 Hf2.out).mono ?_
        rintro e_ W30_ ⟨rfl, hb_⟩
        have HY := Aside0.mk (HX.out.step hb_)
        clear HX hb_ g0 g1 g2 g3 g4 g5
        have HX := HY
        clear HY
        obtain ⟨g0, g1, g2, g3, g4, g5⟩ := HX.out.cells
        go_simp
        refine hK _ _ ?_
        clear hK K
        refine wpAny_take (i := 20) (v := ?_) rfl (by kernel_rfl) (by kernel_rfl) (by kernel_rfl) (fun _ _ _ h => h) (Or.inl ⟨by rfl, ?h20⟩) ?_
        case h20 => (intro w_; go_simp; first | done | with_reducible rfl)
        go_simp
        refine wpAny_take (i := 21) (v := ?_) rfl (by kernel_rfl) (by kernel_rfl) (by kernel_rfl) (fun _ _ _ h => h) (Or.inl ⟨by rfl, ?h21⟩) ?_
        case h21 => (intro w_; go_simp; first | done | with_reducible rfl)
        go_simp
        refine wpAny_take (i := 22) (v := ?_) rfl (by kernel_rfl) (by kernel_rfl) (by kernel_rfl) (fun _ _ _ h => h) (Or.inl ⟨by rfl, ?h22⟩) ?_
        case h22 => (intro w_; go_simp; first | done | with_reducible rfl)
        go_simp
        refine wpAny_take (i := 23) (v := ?_) rfl (by kernel_rfl) (by kernel_rfl) (by kernel_rfl) (fun _ _ _ h => h) (Or.inl ⟨by rfl, ?h23⟩) ?_
        case h23 => (intro w_; go_simp; first | done | with_reducible rfl)
        go_simp
        refine wpAny_take (i := 25) (v := ?_) rfl (by kernel_rfl) (by kernel_rfl) (by kernel_rfl) (fun _ _ _ h => h) (Or.inl ⟨by rfl, ?h25⟩) ?_
        case h25 => (intro w_; go_simp; first | done | with_reducible rfl)
        go_simp
        refine wpAny_ready (rs := [24, 26]) (by kernel_rfl) (by simp) ?_
        refine AllReady.cons rfl (fun K hK => ?_) ?_
        · go_simp
          refine hK _ _ ?_
          clear hK K
          refine wpAny_ready (rs := [26]) (by kernel_rfl) (by simp) ?_
          refine AllReady.cons rfl (fun K hK => ?_) AllReady.nil
          go_simp
          refine hK _ _ ?_
          clear hK K
          refine wpAny_ready (rs := [27]) (by kernel_rfl) (by simp) ?_
          refine AllReady.cons rfl (fun K hK => ?_) AllReady.nil
          go_simp
          go_wp2_with (fail)
          refine (kept_calls A1 cap _ A0 c0 l0 _ HX.out.lent (Kd.C_below HC.out HX.out.below) hc0 (by omega)).mono ?_
          rintro e_ W31_ ⟨rfl, hb_⟩
          have HY := Aside0.mk (HX.out.step hb_)
          clear HX hb_ g0 g1 g2 g3 g4 g5
          have HX := HY
          clear HY
          obtain ⟨g0, g1, g2, g3, g4, g5⟩ := HX.out.cells
          go_simp
          refine hK _ _ ?_
          clear hK K
          refine wpAny_take (i := 28) (v := ?_) rfl (by kernel_rfl) (by kernel_rfl) (by kernel_rfl) (fun _ _ _ h => h) (Or.inl ⟨by rfl, ?h28⟩) ?_
          case h28 => (intro w_; go_simp; first | done | with_reducible rfl)
          go_simp
          refine wpAny_take (i := 29) (v := ?_) rfl (by kernel_rfl) (by kernel_rfl) (by kernel_rfl) (fun _ _ _ h => h) (Or.inl ⟨by rfl, ?h29⟩) ?_
          case h29 => (intro w_; go_simp; first | done | with_reducible rfl)
          go_simp
          refine wpAny_ready (rs := [30]) (by kernel_rfl) (by simp) ?_
          refine AllReady.cons rfl (fun K hK => ?_) AllReady.nil
          go_simp
          go_wp2_with (fail)
          refine (praxinoscopelaw17_awake.calls k true _ Haw.out).mono ?_
          rintro e_ W32_ ⟨rfl, hb_⟩
          have HY := Aside0.mk (HX.out.step hb_)
          clear HX hb_ g0 g1 g2 g3 g4 g5
          have HX := HY
          clear HY
          obtain ⟨g0, g1, g2, g3, g4, g5⟩ := HX.out.cells
          go_simp
          refine hK _ _ ?_
          clear hK K
          refine wpAny_take (i := 31) (v := ?_) rfl (by kernel_rfl) (by kernel_rfl) (by kernel_rfl) (fun _ _ _ h => h) (Or.inl ⟨by rfl, ?h31⟩) ?_
          case h31 => (intro w_; go_simp; first | done | with_reducible rfl)
          go_simp
          refine wpAny_take (i := 32) (v := ?_) rfl (by kernel_rfl) (by kernel_rfl) (by kernel_rfl) (fun _ _ _ h => h) (Or.inl ⟨by rfl, ?h32⟩) ?_
          case h32 => (intro w_; go_simp; first | done | with_reducible rfl)
          go_simp
          refine wpAny_done (by kernel_rfl) ?_ _
          go_wp2
          go_ret
          exact ⟨rfl, HX.out.below⟩
        refine AllReady.cons rfl (fun K hK => ?_) AllReady.nil
        go_simp
        refine hK _ _ ?_
        clear hK K
        refine wpAny_ready (rs := [24]) (by kernel_rfl) (by simp) ?_
        refine AllReady.cons rfl (fun K hK => ?_) AllReady.nil
        go_simp
        refine hK _ _ ?_
        clear hK K
        refine wpAny_ready (rs := [27]) (by kernel_rfl) (by simp) ?_
        refine AllReady.cons rfl (fun K hK => ?_) AllReady.nil
        go_simp
        go_wp2_with (fail)
        refine (kept_calls A1 cap _ A0 c0 l0 _ HX.out.lent (Kd.C_below HC.out HX.out.below) hc0 (by omega)).mono ?_
        rintro e_ W33_ ⟨rfl, hb_⟩
        have HY := Aside0.mk (HX.out.step hb_)
        clear HX hb_ g0 g1 g2 g3 g4 g5
        have HX := HY
        clear HY
        obtain ⟨g0, g1, g2, g3, g4, g5⟩ := HX.out.cells
        go_simp
        refine hK _ _ ?_
        clear hK K
        refine wpAny_take (i := 28) (v := ?_) rfl (by kernel_rfl) (by kernel_rfl) (by kernel_rfl) (fun _ _ _ h => h) (Or.inl ⟨by rfl, ?h28⟩) ?_
        case h28 => (intro w_; go_simp; first | done | with_reducible rfl)
        go_simp
        refine wpAny_take (i := 29) (v := ?_) rfl (by kernel_rfl) (by kernel_rfl) (by kernel_rfl) (fun _ _ _ h => h) (Or.inl ⟨by rfl, ?h29⟩) ?_
        case h29 => (intro w_; go_simp; first | done | with_reducible rfl)
        go_simp
        refine wpAny_ready (rs := [30]) (by kernel_rfl) (by simp) ?_
        refine AllReady.cons rfl (fun K hK => ?_) AllReady.nil
        go_simp
        go_wp2_with (fail)
        refine (praxinoscopelaw17_awake.calls k true _ Haw.out).mono ?_
        rintro e_ W34_ ⟨rfl, hb_⟩
        have HY := Aside0.mk (HX.out.step hb_)
        clear HX hb_ g0 g1 g2 g3 g4 g5
        have HX := HY
        clear HY
        obtain ⟨g0, g1, g2, g3, g4, g5⟩ := HX.out.cells
        go_simp
        refine hK _ _ ?_
        clear hK K
        refine wpAny_take (i := 31) (v := ?_) rfl (by kernel_rfl) (by kernel_rfl) (by kernel_rfl) (fun _ _ _ h => h) (Or.inl ⟨by rfl, ?h31⟩) ?_
        case h31 => (intro w_; go_simp; first | done | with_reducible rfl)
        go_simp
        refine wpAny_take (i := 32) (v := ?_) rfl (by kernel_rfl) (by kernel_rfl) (by kernel_rfl) (fun _ _ _ h => h) (Or.inl ⟨by rfl, ?h32⟩) ?_
        case h32 => (intro w_; go_simp; first | done | with_reducible rfl)
        go_simp
        refine wpAny_done (by kernel_rfl) ?_ _
        go_wp2
        go_ret
        exact ⟨rfl, HX.out.below⟩
      refine AllReady.cons rfl (fun K hK => ?_) AllReady.nil
      go_simp
      refine hK _ _ ?_
      clear hK K
      refine wpAny_ready (rs := [16]) (by kernel_rfl) (by simp) ?_
      refine AllReady.cons rfl (fun K hK => ?_) AllReady.nil
      go_simp
      refine hK _ _ ?_
      clear hK K
      refine wpAny_ready (rs := [17]) (by kernel_rfl) (by simp) ?_
      refine AllReady.cons rfl (fun K hK => ?_) AllReady.nil
      go_simp
      go_wp2_with (fail)
      refine (picture_Format.calls t ty A1 cap l0 fmt _ (lent_C HX.out.lent).1 (lent_C HX.out.lent).2 Hf1.out).mono ?_
      rintro e_ W35_ ⟨rfl, hb_⟩
      have HY := Aside0.mk (HX.out.step hb_)
      clear HX hb_ g0 g1 g2 g3 g4 g5
      have HX := HY
      clear HY
      obtain ⟨g0, g1, g2, g3, g4, g5⟩ := HX.out.cells
      go_simp
      refine hK _ _ ?_
      clear hK K
      refine wpAny_ready (rs := [19]) (by kernel_rfl) (by simp) ?_
      refine AllReady.cons rfl (fun K hK => ?_) AllReady.nil
      go_simp
      go_wp2_with (fail)
      refine (praxinoscoperef17_Format.calls t ty A0 c0 l0 fmt _ (Kd.C_below HC.out HX.out.below) hc0 Hf2.out).mono ?_
      rintro e_ W36_ ⟨rfl, hb_⟩
      have HY := Aside0.mk (HX.out.step hb_)
      clear HX hb_ g0 g1 g2 g3 g4 g5
      have HX := HY
      clear HY
      obtain ⟨g0, g1, g2, g3, g4, g5⟩ := HX.out.cells
      go_simp
      refine hK _ _ ?_
      clear hK K
      refine wpAny_take (i := 20) (v := ?_) rfl (by kernel_rfl) (by kernel_rfl) (by kernel_rfl) (fun _ _ _ h => h) (Or.inl ⟨by rfl, ?h20⟩) ?_
      case h20 => (intro w_; go_simp; first | done | with_reducible rfl)
      go_simp
      refine wpAny_take (i := 21) (v := ?_) rfl (by kernel_rfl) (by kernel_rfl) (by kernel_rfl) (fun _ _ _ h => h) (Or.inl ⟨by rfl, ?h21⟩) ?_
      case h21 => (intro w_; go_simp; first | done | with_reducible rfl)
      go_simp
      refine wpAny_take (i := 22) (v := ?_) rfl (by kernel_rfl) (by kernel_rfl) (by kernel_rfl) (fun _ _ _ h => h) (Or.inl ⟨by rfl, ?h22⟩) ?_
      case h22 => (intro w_; go_simp; first | done | with_reducible rfl)
      go_simp
      refine wpAny_take (i := 23) (v := ?_) rfl (by kernel_rfl) (by kernel_rfl) (by kernel_rfl) (fun _ _ _ h => h) (Or.inl ⟨by rfl, ?h23⟩) ?_
      case h23 => (intro w_; go_simp; first | done | with_reducible rfl)
      go_simp
      refine wpAny_take (i := 25) (v := ?_) rfl (by kernel_rfl) (by kernel_rfl) (by kernel_rfl) (fun _ _ _ h => h) (Or.inl ⟨by rfl, ?h25⟩) ?_
      case h25 => (intro w_; go_simp; first | done | with_reducible rfl)
      go_simp
      refine wpAny_ready (rs := [24, 26]) (by kernel_rfl) (by simp) ?_
      refine AllReady.cons rfl (fun K hK => ?_) ?_
      · go_simp
        refine hK _ _ ?_
        clear hK K
        refine wpAny_ready (rs := [26]) (by kernel_rfl) (by simp) ?_
        refine AllReady.cons rfl (fun K hK => ?_) AllReady.nil
        go_simp
        refine hK _ _ ?_
        clear hK K
        refine wpAny_ready (rs := [27]) (by kernel_rfl) (by simp) ?_
        refine AllReady.cons rfl (fun K hK => ?_) AllReady.nil
        go_simp
        go_wp2_with (fail)
        refine (kept_calls A1 cap _ A0 c0 l0 _ HX.out.lent (Kd.C_below HC.out HX.out.below) hc0 (by omega)).mono ?_
        rintro e_ W37_ ⟨rfl, hb_⟩
        have HY := Aside0.mk (HX.out.step hb_)
        clear HX hb_ g0 g1 g2 g3 g4 g5
        have HX := HY
        clear HY
        obtain ⟨g0, g1, g2, g3, g4, g5⟩ := HX.out.cells
        go_simp
        refine hK _ _ ?_
        clear hK K
        refine wpAny_take (i := 28) (v := ?_) rfl (by kernel_rfl) (by kernel_rfl) (by kernel_rfl) (fun _ _ _ h => h) (Or.inl ⟨by rfl, ?h28⟩) ?_
        case h28 => (intro w_; go_simp; first | done | with_reducible rfl)
        go_simp
        refine wpAny_take (i := 29) (v := ?_) rfl (by kernel_rfl) (by kernel_rfl) (by kernel_rfl) (fun _ _ _ h => h) (Or.inl ⟨by rfl, ?h29⟩) ?_
        case h29 => (intro w_; go_simp; first | done | with_reducible rfl)
        go_simp
        refine wpAny_ready (rs := [30]) (by kernel_rfl) (by simp) ?_
        refine AllReady.cons rfl (fun K hK => ?_) AllReady.nil
        go_simp
        go_wp2_with (fail)
        refine (praxinoscopelaw17_awake.calls k true _ Haw.out).mono ?_
        rintro e_ W38_ ⟨rfl, hb_⟩
        have HY := Aside0.mk (HX.out.step hb_)
        clear HX hb_ g0 g1 g2 g3 g4 g5
        have HX := HY
        clear HY
        obtain ⟨g0, g1, g2, g3, g4, g5⟩ := HX.out.cells
        go_simp
        refine hK _ _ ?_
        clear hK K
        refine wpAny_take (i := 31) (v := ?_) rfl (by kernel_rfl) (by kernel_rfl) (by kernel_rfl) (fun _ _ _ h => h) (Or.inl ⟨by rfl, ?h31⟩) ?_
        case h31 => (intro w_; go_simp; first | done | with_reducible rfl)
        go_simp
        refine wpAny_take (i := 32) (v := ?_) rfl (by kernel_rfl) (by kernel_rfl) (by kernel_rfl) (fun _ _ _ h => h) (Or.inl ⟨by rfl, ?h32⟩) ?_
        case h32 => (intro w_; go_simp; first | done | with_reducible rfl)
        go_simp
        refine wpAny_done (by kernel_rfl) ?_ _
        go_wp2
        go_ret
        exact ⟨rfl, HX.out.below⟩
      refine AllReady.cons rfl (fun K hK => ?_) AllReady.nil
      go_simp
      refine hK _ _ ?_
      clear hK K
      refine wpAny_ready (rs := [24]) (by kernel_rfl) (by simp) ?_
      refine AllReady.cons rfl (fun K hK => ?_) AllReady.nil
      go_simp
      refine hK _ _ ?_
      clear hK K
      refine wpAny_ready (rs := [27]) (by kernel_rfl) (by simp) ?_
      refine AllReady.cons rfl (fun K hK => ?_) AllReady.nil
      go_simp
      go_wp2_with (fail)
      refine (kept_calls A1 cap _ A0 c0 l0 _ HX.out.lent (Kd.C_below HC.out HX.out.below) hc0 (by omega)).mono ?_
      rintro e_ W39_ ⟨rfl, hb_⟩
      have HY := Aside0.mk (HX.out.step hb_)
      clear HX hb_ g0 g1 g2 g3 g4 g5
      have HX := HY
      clear HY
      obtain ⟨g0, g1, g2, g3, g4, g5⟩ := HX.out.cells
      go_simp
      refine hK _ _ ?_
      clear hK K
      refine wpAny_take (i := 28) (v := ?_) rfl (by kernel_rfl) (by kernel_rfl) (by kernel_rfl) (fun _ _ _ h => h) (Or.inl ⟨by rfl, ?h28⟩) ?_
      case h28 => (intro w_; go_simp; first | done | with_reducible rfl)
      go_simp
      refine wpAny_take (i := 29) (v := ?_) rfl (by kernel_rfl) (by kernel_rfl) (by kernel_rfl) (fun _ _ _ h => h) (Or.inl ⟨by rfl, ?h29⟩) ?_
      case h29 => (intro w_; go_simp; first | done | with_reducible rfl)
      go_simp
      refine wpAny_ready (rs := [30]) (by kernel_rfl) (by simp) ?_
      refine AllReady.cons rfl (fun K hK => ?_) AllReady.nil
      go_simp
      go_wp2_with (fail)
      refine (praxinoscopelaw17_awake.calls k true _ Haw.out).mono ?_
      rintro e_ W40_ ⟨rfl, hb_⟩
      have HY := Aside0.mk (HX.out.step hb_)
      clear HX hb_ g0 g1 g2 g3 g4 g5
      have HX := HY
      clear HY
      obtain ⟨g0, g1, g2, g3, g4, g5⟩ := HX.out.cells
      go_simp
      refine hK _ _ ?_
      clear hK K
      refine wpAny_take (i := 31) (v := ?_) rfl (by kernel_rfl) (by kernel_rfl) (by kernel_rfl) (fun _ _ _ h => h) (Or.inl ⟨by rfl, ?h31⟩) ?_
      case h31 => (intro w_; go_simp; first | done | with_reducible rfl)
      go_simp
      refine wpAny_take (i := 32) (v := ?_) rfl (by kernel_rfl) (by kernel_rfl) (by kernel_rfl) (fun _ _ _ h => h) (Or.inl ⟨by rfl, ?h32⟩) ?_
      case h32 => (intro w_; go_simp; first | done | with_reducible rfl)
      go_simp
      refine wpAny_done (by kernel_rfl) ?_ _
      go_wp2
      go_ret
      exact ⟨rfl, HX.out.below⟩
    refine AllReady.cons rfl (fun K hK => ?_) AllReady.nil
    go_simp
    refine hK _ _ ?_
    clear hK K
    refine wpAny_ready (rs := [9]) (by kernel_rfl) (by simp) ?_
    refine AllReady.cons rfl (fun K hK => ?_) AllReady.nil
    go_simp
    refine hK _ _ ?_
    clear hK K
    refine wpAny_ready (rs := [10]) (by kernel_rfl) (by simp) ?_
    refine AllReady.cons rfl (fun K hK => ?_) AllReady.nil
    go_simp
    go_wp2_with (fail)
    refine (picture_Check.calls t ty A1 cap l0 chk _ (lent_C HX.out.lent).1 (lent_C HX.out.lent).2 Hc1.out).mono ?_
    rintro e_ W41_ ⟨rfl, hb_⟩
    have HY := Aside0.mk (HX.out.step hb_)
    clear HX hb_ g0 g1 g2 g3 g4 g5
    have HX := HY
    clear HY
    obtain ⟨g0, g1, g2, g3, g4, g5⟩ := HX.out.cells
    go_simp
    refine hK _ _ ?_
    clear hK K
    refine wpAny_ready (rs := [12]) (by kernel_rfl) (by simp) ?_
    refine AllReady.cons rfl (fun K hK => ?_) AllReady.nil
    go_simp
    go_wp2_with (fail)
    refine (praxinoscoperef17_Check.calls t ty A0 c0 l0 chk _ (Kd.C_below HC.out HX.out.below) hc0 Hc2.out).mono ?_
    rintro e_ W42_ ⟨rfl, hb_⟩
    have HY := Aside0.mk (HX.out.step hb_)
    clear HX hb_ g0 g1 g2 g3 g4 g5
    have HX := HY
    clear HY
    obtain ⟨g0, g1, g2, g3, g4, g5⟩ := HX.out.cells
    go_simp
    refine hK _ _ ?_
    clear hK K
    refine wpAny_take (i := 13) (v := ?_) rfl (by kernel_rfl) (by kernel_rfl) (by kernel_rfl) (fun _ _ _ h => h) (Or.inl ⟨by rfl, ?h13⟩) ?_
    case h13 => (intro w_; go_simp; first | done | with_reducible rfl)
    go_simp
    refine wpAny_take (i := 14) (v := ?_) rfl (by kernel_rfl) (by kernel_rfl) (by kernel_rfl) (fun _ _ _ h => h) (Or.inl ⟨by rfl, ?h14⟩) ?_
    case h14 => (intro w_; go_simp; first | done | with_reducible rfl)
    go_simp
    refine wpAny_take (i := 15) (v := ?_) rfl (by kernel_rfl) (by kernel_rfl) (by kernel_rfl) (fun _ _ _ h => h) (Or.inl ⟨by rfl, ?h15⟩) ?_
    case h15 => (intro w_; go_simp; first | done | with_reducible rfl)
    go_simp
    refine wpAny_ready (rs := [16, 18]) (by kernel_rfl) (by simp) ?_
    refine AllReady.cons rfl (fun K hK => ?_) ?_
    · go_simp
      refine hK _ _ ?_
      clear hK K
      refine wpAny_ready (rs := [17, 18]) (by kernel_rfl) (by simp) ?_
      refine AllReady.cons rfl (fun K hK => ?_) ?_
      · go_simp
        go_wp2_with (fail)
        refine (picture_Format.calls t ty A1 cap l0 fmt _ (lent_C HX.out.lent).1 (lent_C HX.out.lent).2 Hf1.out).mono ?_
        rintro e_ W43_ ⟨rfl, hb_⟩
        have HY := Aside0.mk (HX.out.step hb_)
        clear HX hb_ g0 g1 g2 g3 g4 g5
        have HX := HY
        clear HY
        obtain ⟨g0, g1, g2, g3, g4, g5⟩ := HX.out.cells
        go_simp
        refine hK _ _ ?_
        clear hK K
        refine wpAny_ready (rs := [18]) (by kernel_rfl) (by simp) ?_
        refine AllReady.cons rfl (fun K hK => ?_) AllReady.nil
        go_simp
        refine hK _ _ ?_
        clear hK K
        refine wpAny_ready (rs := [19]) (by kernel_rfl) (by simp) ?_
        refine AllReady.cons rfl (fun K hK => ?_) AllReady.nil
        go_simp
        go_wp2_with (fail)
        refine (praxinoscoperef17_Format.calls t ty A0 c0 l0 fmt _ (Kd.C_below HC.out HX.out.below) hc0 Hf2.out).mono ?_
        rintro e_ W44_ ⟨rfl, hb_⟩
        have HY := Aside0.mk (HX.out.step hb_)
        clear HX hb_ g0 g1 g2 g3 g4 g5
        have HX := HY
        clear HY
        obtain ⟨g0, g1, g2, g3, g4, g5⟩ := HX.out.cells
        go_simp
        refine hK _ _ ?_
        clear hK K
        refine wpAny_take (i := 20) (v := ?_) rfl (by kernel_rfl) (by kernel_rfl) (by kernel_rfl) (fun _ _ _ h => h) (Or.inl ⟨by rfl, ?h20⟩) ?_
        case h20 => (intro w_; go_simp; first | done | with_reducible rfl)
        go_simp
        refine wpAny_take (i := 21) (v := ?_) rfl (by kernel_rfl) (by kernel_rfl) (by kernel_rfl) (fun _ _ _ h => h) (Or.inl ⟨by rfl, ?h21⟩) ?_
        case h21 => (intro w_; go_simp; first | done | with_reducible rfl)
        go_simp
        refine wpAny_take (i := 22) (v := ?_) rfl (by kernel_rfl) (by kernel_rfl) (by kernel_rfl) (fun _ _ _ h => h) (Or.inl ⟨by rfl, ?h22⟩) ?_
        case h22 => (intro w_; go_simp; first | done | with_reducible rfl)
        go_simp
        refine wpAny_take (i := 23) (v := ?_) rfl (by kernel_rfl) (by kernel_rfl) (by kernel_rfl) (fun _ _ _ h => h) (Or.inl ⟨by rfl, ?h23⟩) ?_
        case h23 => (intro w_; go_simp; first | done | with_reducible rfl)
        go_simp
        refine wpAny_take (i := 25) (v := ?_) rfl (by kernel_rfl) (by kernel_rfl) (by kernel_rfl) (fun _ _ _ h => h) (Or.inl ⟨by rfl, ?h25⟩) ?_
        case h25 => (intro w_; go_simp; first | done | with_reducible rfl)
        go_simp
        refine wpAny_ready (rs := [24, 26]) (by kernel_rfl) (by simp) ?_
        refine AllReady.cons rfl (fun K hK => ?_) ?_
        · go_simp
          refine hK _ _ ?_
          clear hK K
          refine wpAny_ready (rs := [26]) (by kernel_rfl) (by simp) ?_
          refine AllReady.cons rfl (fun K hK => ?_) AllReady.nil
          go_simp
          refine hK _ _ ?_
          clear hK K
          refine wpAny_ready (rs := [27]) (by kernel_rfl) (by simp) ?_
          refine AllReady.cons rfl (fun K hK => ?_) AllReady.nil
          go_simp
          go_wp2_with (fail)
          refine (kept_calls A1 cap _ A0 c0 l0 _ HX.out.lent (Kd.C_below HC.out HX.out.below) hc0 (by omega)).mono ?_
          rintro e_ W45_ ⟨rfl, hb_⟩
          have HY := Aside0.mk (HX.out.step hb_)
          clear HX hb_ g0 g1 g2 g3 g4 g5
          have HX := HY
          clear HY
          obtain ⟨g0, g1, g2, g3, g4, g5⟩ := HX.out.cells
          go_simp
          refine hK _ _ ?_
          clear hK K
          refine wpAny_take (i := 28) (v := ?_) rfl (by kernel_rfl) (by kernel_rfl) (by kernel_rfl) (fun _ _ _ h => h) (Or.inl ⟨by rfl, ?h28⟩) ?_
          case h28 => (intro w_; go_simp; first | done | with_reducible rfl)
          go_simp
          refine wpAny_take (i := 29) (v := ?_) rfl (by kernel_rfl) (by kernel_rfl) (by kernel_rfl) (fun _ _ _ h => h) (Or.inl ⟨by rfl, ?h29⟩) ?_
          case h29 => (intro w_; go_simp; first | done | with_reducible rfl)
          go_simp
          refine wpAny_ready (rs := [30]) (by kernel_rfl) (by simp) ?_
          refine AllReady.cons rfl (fun K hK => ?_) AllReady.nil
          go_simp
          go_wp2_with (fail)
          refine (praxinoscopelaw17_awake.calls k true _ Haw.out).mono ?_
          rintro e_ W46_ ⟨rfl, hb_⟩
          have HY := Aside0.mk (HX.out.step hb_)
          clear HX hb_ g0 g1 g2 g3 g4 g5
          have HX := HY
          clear HY
          obtain ⟨g0, g1, g2, g3, g4, g5⟩ := HX.out.cells
          go_simp
          refine hK _ _ ?_
          clear hK K
          refine wpAny_take (i := 31) (v := ?_) rfl (by kernel_rfl) (by kernel_rfl) (by kernel_rfl) (fun _ _ _ h => h) (Or.inl ⟨by rfl, ?h31⟩) ?_
          case h31 => (intro w_; go_simp; first | done | with_reducible rfl)
          go_simp
          refine wpAny_take (i := 32) (v := ?_) rfl (by kernel_rfl) (by kernel_rfl) (by kernel_rfl) (fun _ _ _ h => h) (Or.inl ⟨by rfl, ?h32⟩) ?_
          case h32 => (intro w_; go_simp; first | done | with_reducible rfl)
          go_simp
          refine wpAny_done (by kernel_rfl) ?_ _
          go_wp2
          go_ret
          exact ⟨rfl, HX.out.below⟩
        refine AllReady.cons rfl (fun K hK => ?_) AllReady.nil
        go_simp
        refine hK _ _ ?_
        clear hK K
        refine wpAny_ready (rs := [24]) (by kernel_rfl) (by simp) ?_
        refine AllReady.cons rfl (fun K hK => ?_) AllReady.nil
        go_simp
        refine hK _ _ ?_
        clear hK K
        refine wpAny_ready (rs := [27]) (by kernel_rfl) (by simp) ?_
        refine AllReady.cons rfl (fun K hK => ?_) AllReady.nil
        go_simp
        go_wp2_with (fail)
        refine (kept_calls A1 cap _ A0 c0 l0 _ HX.out.lent (Kd.C_below HC.out HX.out.below) hc0 (by omega)).mono ?_
        rintro e_ W47_ ⟨rfl, hb_⟩
        have HY := Aside0.mk (HX.out.step hb_)
        clear HX hb_ g0 g1 g2 g3 g4 g5
        have HX := HY
        clear HY
        obtain ⟨g0, g1, g2, g3, g4, g5⟩ := HX.out.cells
        go_simp
        refine hK _ _ ?_
        clear hK K
        refine wpAny_take (i := 28) (v := ?_) rfl (by kernel_rfl) (by kernel_rfl) (by kernel_rfl) (fun _ _ _ h => h) (Or.inl ⟨by rfl, ?h28⟩) ?_
        case h28 => (intro w_; go_simp; first | done | with_reducible rfl)
        go_simp
        refine wpAny_take (i := 29) (v := ?_) rfl (by kernel_rfl) (by kernel_rfl) (by kernel_rfl) (fun _ _ _ h => h) (Or.inl ⟨by rfl, ?h29⟩) ?_
        case h29 => (intro w_; go_simp; first | done | with_reducible rfl)
        go_simp
        refine wpAny_ready (rs := [30]) (by kernel_rfl) (by simp) ?_
        refine AllReady.cons rfl (fun K hK => ?_) AllReady.nil
        go_simp
        go_wp2_with (fail)
        refine (praxinoscopelaw17_awake.calls k true _ Haw.out).mono ?_
        rintro e_ W48_ ⟨rfl, hb_⟩
        have HY := Aside0.mk (HX.out.step hb_)
        clear HX hb_ g0 g1 g2 g3 g4 g5
        have HX := HY
        clear HY
        obtain ⟨g0, g1, g2, g3, g4, g5⟩ := HX.out.cells
        go_simp
        refine hK _ _ ?_
        clear hK K
        refine wpAny_take (i := 31) (v := ?_) rfl (by kernel_rfl) (by kernel_rfl) (by kernel_rfl) (fun _ _ _ h => h) (Or.inl ⟨by rfl, ?h31⟩) ?_
        case h31 => (intro w_; go_simp; first | done | with_reducible rfl)
        go_simp
        refine wpAny_take (i := 32) (v := ?_) rfl (by kernel_rfl) (by kernel_rfl) (by kernel_rfl) (fun _ _ _ h => h) (Or.inl ⟨by rfl, ?h32⟩) ?_
        case h32 => (intro w_; go_simp; first | done | with_reducible rfl)
        go_simp
        refine wpAny_done (by kernel_rfl) ?_ _
        go_wp2
        go_ret
        exact ⟨rfl, HX.out.below⟩
      refine AllReady.cons rfl (fun K hK => ?_) AllReady.nil
      go_simp
      refine hK _ _ ?_
      clear hK K
      refine wpAny_ready (rs := [17]) (by kernel_rfl) (by simp) ?_
      refine AllReady.cons rfl (fun K hK => ?_) AllReady.nil
      go_simp
      go_wp2_with (fail)
      refine (picture_Format.calls t ty A1 cap l0 fmt _ (lent_C HX.out.lent).1 (lent_C HX.out.lent).2 Hf1.out).mono ?_
      rintro e_ W49_ ⟨rfl, hb_⟩
      have HY := Aside0.mk (HX.out.step hb_)
      clear HX hb_ g0 g1 g2 g3 g4 g5
      have HX := HY
      clear HY
      obtain ⟨g0, g1, g2, g3, g4, g5⟩ := HX.out.cells
      go_simp
      refine hK _ _ ?_
      clear hK K
      refine wpAny_ready (rs := [19]) (by kernel_rfl) (by simp) ?_
      refine AllReady.cons rfl (fun K hK => ?_) AllReady.nil
      go_simp
      go_wp2_with (fail)
      refine (praxinoscoperef17_Format.calls t ty A0 c0 l0 fmt _ (Kd.C_below HC.out HX.out.below) hc0 Hf2.out).mono ?_
      rintro e_ W50_ ⟨rfl, hb_⟩
      have HY := Aside0.mk (HX.out.step hb_)
      clear HX hb_ g0 g1 g2 g3 g4 g5
      have HX := HY
      clear HY
      obtain ⟨g0, g1, g2, g3, g4, g5⟩ := HX.out.cells
      go_simp
      refine hK _ _ ?_
      clear hK K
      refine wpAny_take (i := 20) (v := ?_) rfl (by kernel_rfl) (by kernel_rfl) (by kernel_rfl) (fun _ _ _ h => h) (Or.inl ⟨by rfl, ?h20⟩) ?_
      case h20 => (intro w_; go_simp; first | done | with_reducible rfl)
      go_simp
      refine wpAny_take (i := 21) (v := ?_) rfl (by kernel_rfl) (by kernel_rfl) (by kernel_rfl) (fun _ _ _ h => h) (Or.inl ⟨by rfl, ?h21⟩) ?_
      case h21 => (intro w_; go_simp; first | done | with_reducible rfl)
      go_simp
      refine wpAny_take (i := 22) (v := ?_) rfl (by kernel_rfl) (by kernel_rfl) (by kernel_rfl) (fun _ _ _ h => h) (Or.inl ⟨by rfl, ?h22⟩) ?_
      case h22 => (intro w_; go_simp; first | done | with_reducible rfl)
      go_simp
      refine wpAny_take (i := 23) (v := ?_) rfl (by kernel_rfl) (by kernel_rfl) (by kernel_rfl) (fun _ _ _ h => h) (Or.inl ⟨by rfl, ?h23⟩) ?_
      case h23 => (intro w_; go_simp; first | done | with_reducible rfl)
      go_simp
      refine wpAny_take (i := 25) (v := ?_) rfl (by kernel_rfl) (by kernel_rfl) (by kernel_rfl) (fun _ _ _ h => h) (Or.inl ⟨by rfl, ?h25⟩) ?_
      case h25 => (intro w_; go_simp; first | done | with_reducible rfl)
      go_simp
      refine wpAny_ready (rs := [24, 26]) (by kernel_rfl) (by simp) ?_
      refine AllReady.cons rfl (fun K hK => ?_) ?_
      · go_simp
        refine hK _ _ ?_
        clear hK K
        refine wpAny_ready (rs := [26]) (by kernel_rfl) (by simp) ?_
        refine AllReady.cons rfl (fun K hK => ?_) AllReady.nil
        go_simp
        refine hK _ _ ?_
        clear hK K
        refine wpAny_ready (rs := [27]) (by kernel_rfl) (by simp) ?_
        refine AllReady.cons rfl (fun K hK => ?_) AllReady.nil
        go_simp
        go_wp2_with (fail)
        refine (kept_calls A1 cap _ A0 c0 l0 _ HX.out.lent (Kd.C_below HC.out HX.out.below) hc0 (by omega)).mono ?_
        rintro e_ W51_ ⟨rfl, hb_⟩
        have HY := Aside0.mk (HX.out.step hb_)
        clear HX hb_ g0 g1 g2 g3 g4 g5
        have HX := HY
        clear HY
        obtain ⟨g0, g1, g2, g3, g4, g5⟩ := HX.out.cells
        go_simp
        refine hK _ _ ?_
        clear hK K
        refine wpAny_take (i := 28) (v := ?_) rfl (by kernel_rfl) (by kernel_rfl) (by kernel_rfl) (fun _ _ _ h => h) (Or.inl ⟨by rfl, ?h28⟩) ?_
        case h28 => (intro w_; go_simp; first | done | with_reducible rfl)
        go_simp
        refine wpAny_take (i := 29) (v := ?_) rfl (by kernel_rfl) (by kernel_rfl) (by kernel_rfl) (fun _ _ _ h => h) (Or.inl ⟨by rfl, ?h29⟩) ?_
        case h29 => (intro w_; go_simp; first | done | with_reducible rfl)
        go_simp
        refine wpAny_ready (rs := [30]) (by kernel_rfl) (by simp) ?_
        refine AllReady.cons rfl (fun K hK => ?_) AllReady.nil
        go_simp
        go_wp2_with (fail)
        refine (praxinoscopelaw17_awake.calls k true _ Haw.out).mono ?_
        rintro e_ W52_ ⟨rfl, hb_⟩
        have HY := Aside0.mk (HX.out.step hb_)
        clear HX hb_ g0 g1 g2 g3 g4 g5
        have HX := HY
        clear HY
        obtain ⟨g0, g1, g2, g3, g4, g5⟩ := HX.out.cells
        go_simp
        refine hK _ _ ?_
        clear hK K
        refine wpAny_take (i := 31) (v := ?_) rfl (by kernel_rfl) (by kernel_rfl) (by kernel_rfl) (fun _ _ _ h => h) (Or.inl ⟨by rfl, ?h31⟩) ?_
        case h31 => (intro w_; go_simp; first | done | with_reducible rfl)
        go_simp
        refine wpAny_take (i := 32) (v := ?_) rfl (by kernel_rfl) (by kernel_rfl) (by kernel_rfl) (fun _ _ _ h => h) (Or.inl ⟨by rfl, ?h32⟩) ?_
        case h32 => (intro w_; go_simp; first | done | with_reducible rfl)
        go_simp
        refine wpAny_done (by kernel_rfl) ?_ _
        go_wp2
        go_ret
        exact ⟨rfl, HX.out.below⟩
      refine AllReady.cons rfl (fun K hK => ?_) AllReady.nil
      go_simp
      refine hK _ _ ?_
      clear hK K
      refine wpAny_ready (rs := [24]) (by kernel_rfl) (by simp) ?_
      refine AllReady.cons rfl (fun K hK => ?_) AllReady.nil
      go_simp
      refine hK _ _ ?_
      clear hK K
      refine wpAny_ready (rs := [27]) (by kernel_rfl) (by simp) ?_
      refine AllReady.cons rfl (fun K hK => ?_) AllReady.nil
      go_simp
      go_wp2_with (fail)
      refine (kept_calls A1 cap _ A0 c0 l0 _ HX.out.lent (Kd.C_below HC.out HX.out.below) hc0 (by omega)).mono ?_
      rintro e_ W53_ ⟨rfl, hb_⟩
      have HY := Aside0.mk (HX.out.step hb_)
      clear HX hb_ g0 g1 g2 g3 g4 g5
      have HX := HY
      clear HY
      obtain ⟨g0, g1, g2, g3, g4, g5⟩ := HX.out.cells
      go_simp
      refine hK _ _ ?_
      clear hK K
      refine wpAny_take (i := 28) (v := ?_) rfl (by kernel_rfl) (by kernel_rfl) (by kernel_rfl) (fun _ _ _ h => h) (Or.inl ⟨by rfl, ?h28⟩) ?_
      case h28 => (intro w_; go_simp; first | done | with_reducible rfl)
      go_simp
      refine wpAny_take (i := 29) (v := ?_) rfl (by kernel_rfl) (by kernel_rfl) (by kernel_rfl) (fun _ _ _ h => h) (Or.inl ⟨by rfl, ?h29⟩) ?_
      case h29 => (intro w_; go_simp; first | done | with_reducible rfl)
      go_simp
      refine wpAny_ready (rs := [30]) (by kernel_rfl) (by simp) ?_
      refine AllReady.cons rfl (fun K hK => ?_) AllReady.nil
      go_simp
      go_wp2_with (fail)
      refine (praxinoscopelaw17_awake.calls k true _ Haw.out).mono ?_
      rintro e_ W54_ ⟨rfl, hb_⟩
      have HY := Aside0.mk (HX.out.step hb_)
      clear HX hb_ g0 g1 g2 g3 g4 g5
      have HX := HY
      clear HY
      obtain ⟨g0, g1, g2, g3, g4, g5⟩ := HX.out.cells
      go_simp
      refine hK _ _ ?_
      clear hK K
      refine wpAny_take (i := 31) (v := ?_) rfl (by kernel_rfl) (by kernel_rfl) (by kernel_rfl) (fun _ _ _ h => h) (Or.inl ⟨by rfl, ?h31⟩) ?_
      case h31 => (intro w_; go_simp; first | done | with_reducible rfl)
      go_simp
      refine wpAny_take (i := 32) (v := ?_) rfl (by kernel_rfl) (by kernel_rfl) (by kernel_rfl) (fun _ _ _ h => h) (Or.inl ⟨by rfl, ?h32⟩) ?_
      case h32 => (intro w_; go_simp; first | done | with_reducible rfl)
      go_simp
      refine wpAny_done (by kernel_rfl) ?_ _
      go_wp2
      go_ret
      exact ⟨rfl, HX.out.below⟩
    refine AllReady.cons rfl (fun K hK => ?_) AllReady.nil
    go_simp
    refine hK _ _ ?_
    clear hK K
    refine wpAny_ready (rs := [16]) (by kernel_rfl) (by simp) ?_
    refine AllReady.cons rfl (fun K hK => ?_) AllReady.nil
    go_simp
    refine hK _ _ ?_
    clear hK K
    refine wpAny_ready (rs := [17]) (by kernel_rfl) (by simp) ?_
    refine AllReady.cons rfl (fun K hK => ?_) AllReady.nil
    go_simp
    go_wp2_with (fail)
    refine (picture_Format.calls t ty A1 cap l0 fmt _ (lent_C HX.out.lent).1 (lent_C HX.out.lent).2 Hf1.out).mono ?_
    rintro e_ W55_ ⟨rfl, hb_⟩
    have HY := Aside0.mk (HX.out.step hb_)
    clear HX hb_ g0 g1 g2 g3 g4 g5
    have HX := HY
    clear HY
    obtain ⟨g0, g1, g2, g3, g4, g5⟩ := HX.out.cells
    go_simp
    refine hK _ _ ?_
    clear hK K
    refine wpAny_ready (rs := [19]) (by kernel_rfl) (by simp) ?_
    refine AllReady.cons rfl (fun K hK => ?_) AllReady.nil
    go_simp
    go_wp2_with (fail)
    refine (praxinoscoperef17_Format.calls t ty A0 c0 l0 fmt _ (Kd.C_below HC.out HX.out.below) hc0 Hf2.out).mono ?_
    rintro e_ W56_ ⟨rfl, hb_⟩
    have HY := Aside0.mk (HX.out.step hb_)
    clear HX hb_ g0 g1 g2 g3 g4 g5
    have HX := HY
    clear HY
    obtain ⟨g0, g1, g2, g3, g4, g5⟩ := HX.out.cells
    go_simp
    refine hK _ _ ?_
    clear hK K
    refine wpAny_take (i := 20) (v := ?_) rfl (by kernel_rfl) (by kernel_rfl) (by kernel_rfl) (fun _ _ _ h => h) (Or.inl ⟨by rfl, ?h20⟩) ?_
    case h20 => (intro w_; go_simp; first | done | with_reducible rfl)
    go_simp
    refine wpAny_take (i := 21) (v := ?_) rfl (by kernel_rfl) (by kernel_rfl) (by kernel_rfl) (fun _ _ _ h => h) (Or.inl ⟨by rfl, ?h21⟩) ?_
    case h21 => (intro w_; go_simp; first | done | with_reducible rfl)
    go_simp
    refine wpAny_take (i := 22) (v := ?_) rfl (by kernel_rfl) (by kernel_rfl) (by kernel_rfl) (fun _ _ _ h => h) (Or.inl ⟨by rfl, ?h22⟩) ?_
    case h22 => (intro w_; go_simp; first | done | with_reducible rfl)
    go_simp
    refine wpAny_take (i := 23) (v := ?_) rfl (by kernel_rfl) (by kernel_rfl) (by kernel_rfl) (fun _ _ _ h => h) (Or.inl ⟨by rfl, ?h23⟩) ?_
    case h23 => (intro w_; go_simp; first | done | with_reducible rfl)
    go_simp
    refine wpAny_take (i := 25) (v := ?_) rfl (by kernel_rfl) (by kernel_rfl) (by kernel_rfl) (fun _ _ _ h => h) (Or.inl ⟨by rfl, ?h25⟩) ?_
    case h25 => (intro w_; go_simp; first | done | with_reducible rfl)
    go_simp
    refine wpAny_ready (rs := [24, 26]) (by kernel_rfl) (by simp) ?_
    refine AllReady.cons rfl (fun K hK => ?_) ?_
    · go_simp
      refine hK _ _ ?_
      clear hK K
      refine wpAny_ready (rs := [26]) (by kernel_rfl) (by simp) ?_
      refine AllReady.cons rfl (fun K hK => ?_) AllReady.nil
      go_simp
      refine hK _ _ ?_
      clear hK K
      refine wpAny_ready (rs := [27]) (by kernel_rfl) (by simp) ?_
      refine AllReady.cons rfl (fun K hK => ?_) AllReady.nil
      go_simp
      go_wp2_with (fail)
      refine (kept_calls A1 cap _ A0 c0 l0 _ HX.out.lent (Kd.C_below HC.out HX.out.below) hc0 (by omega)).mono ?_
      rintro e_ W57_ ⟨rfl, hb_⟩
      have HY := Aside0.mk (HX.out.step hb_)
      clear HX hb_ g0 g1 g2 g3 g4 g5
      have HX := HY
      clear HY
      obtain ⟨g0, g1, g2, g3, g4, g5⟩ := HX.out.cells
      go_simp
      refine hK _ _ ?_
      clear hK K
      refine wpAny_take (i := 28) (v := ?_) rfl (by kernel_rfl) (by kernel_rfl) (by kernel_rfl) (fun _ _ _ h => h) (Or.inl ⟨by rfl, ?h28⟩) ?_
      case h28 => (intro w_; go_simp; first | done | with_reducible rfl)
      go_simp
      refine wpAny_take (i := 29) (v := ?_) rfl (by kernel_rfl) (by kernel_rfl) (by kernel_rfl) (fun _ _ _ h => h) (Or.inl ⟨by rfl, ?h29⟩) ?_
      case h29 => (intro w_; go_simp; first | done | with_reducible rfl)
      go_simp
      refine wpAny_ready (rs := [30]) (by kernel_rfl) (by simp) ?_
      refine AllReady.cons rfl (fun K hK => ?_) AllReady.nil
      go_simp
      go_wp2_with (fail)
      refine (praxinoscopelaw17_awake.calls k true _ Haw.out).mono ?_
      rintro e_ W58_ ⟨rfl, hb_⟩
      have HY := Aside0.mk (HX.out.step hb_)
      clear HX hb_ g0 g1 g2 g3 g4 g5
      have HX := HY
      clear HY
      obtain ⟨g0, g1, g2, g3, g4, g5⟩ := HX.out.cells
      go_simp
      refine hK _ _ ?_
      clear hK K
      refine wpAny_take (i := 31) (v := ?_) rfl (by kernel_rfl) (by kernel_rfl) (by kernel_rfl) (fun _ _ _ h => h) (Or.inl ⟨by rfl, ?h31⟩) ?_
      case h31 => (intro w_; go_simp; first | done | with_reducible rfl)
      go_simp
      refine wpAny_take (i := 32) (v := ?_) rfl (by kernel_rfl) (by kernel_rfl) (by kernel_rfl) (fun _ _ _ h => h) (Or.inl ⟨by rfl, ?h32⟩) ?_
      case h32 => (intro w_; go_simp; first | done | with_reducible rfl)
      go_simp
      refine wpAny_done (by kernel_rfl) ?_ _
      go_wp2
      go_ret
      exact ⟨rfl, HX.out.below⟩
    refine AllReady.cons rfl (fun K hK => ?_) AllReady.nil
    go_simp
    refine hK _ _ ?_
    clear hK K
    refine wpAny_ready (rs := [24]) (by kernel_rfl) (by simp) ?_
    refine AllReady.cons rfl (fun K hK => ?_) AllReady.nil
    go_simp
    refine hK _ _ ?_
    clear hK K
    refine wpAny_ready (rs := [27]) (by kernel_rfl) (by simp) ?_
    refine AllReady.cons rfl (fun K hK => ?_) AllReady.nil
    go_simp
    go_wp2_with (fail)
    refine (kept_calls A1 cap _ A0 c0 l0 _ HX.out.lent (Kd.C_below HC.out HX.out.below) hc0 (by omega)).mono ?_
    rintro e_ W59_ ⟨rfl, hb_⟩
    have HY := Aside0.mk (HX.out.step hb_)
    clear HX hb_ g0 g1 g2 g3 g4 g5
    have HX := HY
    clear HY
    obtain ⟨g0, g1, g2, g3, g4, g5⟩ := HX.out.cells
    go_simp
    refine hK _ _ ?_
    clear hK K
    refine wpAny_take (i := 28) (v := ?_) rfl (by kernel_rfl) (by kernel_rfl) (by kernel_rfl) (fun _ _ _ h => h) (Or.inl ⟨by rfl, ?h28⟩) ?_
    case h28 => (intro w_; go_simp; first | done | with_reducible rfl)
    go_simp
    refine wpAny_take (i := 29) (v := ?_) rfl (by kernel_rfl) (by kernel_rfl) (by kernel_rfl) (fun _ _ _ h => h) (Or.inl ⟨by rfl, ?h29⟩) ?_
    case h29 => (intro w_; go_simp; first | done | with_reducible rfl)
    go_simp
    refine wpAny_ready (rs := [30]) (by kernel_rfl) (by simp) ?_
    refine AllReady.cons rfl (fun K hK => ?_) AllReady.nil
    go_simp
    go_wp2_with (fail)
    refine (praxinoscopelaw17_awake.calls k true _ Haw.out).mono ?_
    rintro e_ W60_ ⟨rfl, hb_⟩
    have HY := Aside0.mk (HX.out.step hb_)
    clear HX hb_ g0 g1 g2 g3 g4 g5
    have HX := HY
    clear HY
    obtain ⟨g0, g1, g2, g3, g4, g5⟩ := HX.out.cells
    go_simp
    refine hK _ _ ?_
    clear hK K
    refine wpAny_take (i := 31) (v := ?_) rfl (by kernel_rfl) (by kernel_rfl) (by kernel_rfl) (fun _ _ _ h => h) (Or.inl ⟨by rfl, ?h31⟩) ?_
    case h31 => (intro w_; go_simp; first | done | with_reducible rfl)
    go_simp
    refine wpAny_take (i := 32) (v := ?_) rfl (by kernel_rfl) (by kernel_rfl) (by kernel_rfl) (fun _ _ _ h => h) (Or.inl ⟨by rfl, ?h32⟩) ?_
    case h32 => (intro w_; go_simp; first | done | with_reducible rfl)
    go_simp
    refine wpAny_done (by kernel_rfl) ?_ _
    go_wp2
    go_ret
    exact ⟨rfl, HX.out.below⟩
end Go.Proofs.Ytjbpcffmeaadeaa.Pr
