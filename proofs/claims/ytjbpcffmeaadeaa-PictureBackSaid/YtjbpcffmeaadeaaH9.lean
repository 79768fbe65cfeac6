import Derived.Test.YtjbpcffmeaadeaaP7
import Derived.Test.YtjbpcffmeaadeaaTopP2
import Derived.Test.YtjbpcffmeaadeaaM4
/- Plain laws of PictureBack: what Get answers where a header's bits stand, and where the bytes end in them. -/
namespace Go.Proofs.Ytjbpcffmeaadeaa.Pc
open Go.RowKit Go.Proofs.Ytjbpcffmeaadeaa.Pr Go.Proofs.Ytjbpcffmeaadeaa.Pp Go.Proofs.YtjbpcffmeaadeaaW.PrintWords Go.Proofs.YtjbpcffmeaadeaaW.PrintLast Go.Proofs.YtjbpcffmeaadeaaW.PrintMore

theorem bitB_take (b : List Int) (e j : Nat) (h : j < 8 * e) : bitB (b.take e) j = bitB b j := by
  unfold bitB
  rw [List.getD_eq_getElem?_getD, List.getD_eq_getElem?_getD, List.getElem?_take_of_lt (by omega)]
theorem numB_take (b : List Int) (e i n : Nat) (h : i + n ≤ 8 * e) : numB (b.take e) i n = numB b i n := by
  induction n with
  | zero => rfl
  | succ n ih => simp only [numB]; rw [ih (by omega), bitB_take b e _ (by omega)]
theorem num_of {b : List Int} {i m : Nat} {n : Int} (h : Reads b i (digs n m)) (h0 : 0 ≤ n) (h1 : n < 2 ^ m) : numB b i m = n := by
  rw [Reads.num m h, Int.emod_eq_of_lt h0 h1]

theorem sp_exact (b : List Int) : ∀ (r : List Int) (f : Nat) (acc : List Int) (p : Nat), OkB r → acc.length + r.length ≤ 32 → r.length < f → Reads b p (spares r ++ [48]) →
    spP b f acc (p : Int) 0 = (acc ++ r, ((p + 9 * r.length + 1 : Nat) : Int), 0)
  | [], f, acc, p, _, _, hf, h => by
    have h' : Reads b p (48 :: []) := by simpa [spares] using h
    have hb := h'.cons.1
    have hl := h'.1
    rw [spP_stop (take_in1 b p (by simpa using hl)) (by rw [hb]; decide) f (by simpa using hf), List.append_nil]
    simp
  | x :: r, f, acc, p, hr, hn, hf, h => by
    have h' : Reads b p (49 :: (digs x 8 ++ (spares r ++ [48]))) := by
      have := h; rw [spares_cons] at this; simpa using this
    obtain ⟨hb, h2⟩ := h'.cons
    obtain ⟨h3, h4⟩ := h2.split
    rw [digs_length] at h4
    have hl := h3.1
    rw [digs_length] at hl
    have hx := hr.2 x (by simp)
    have hnum := num_of h3 (by omega) (by omega)
    have t1 := take_in1 b p (by omega)
    rw [show bitB b p = 1 from hb] at t1
    have t2 := take_in8 b (p + 1) (by omega)
    rw [hnum] at t2
    simp only [List.length_cons] at hn hf
    obtain ⟨f, rfl⟩ : ∃ q, f = q + 1 := ⟨f - 1, by omega⟩
    rw [spP_more t1 (by omega) t2, sp_exact b r f (acc ++ [x]) (p + 1 + 8) ⟨by have := hr.1; simp at this; omega, fun y hy => hr.2 y (by simp [hy])⟩ (by simp; omega) (by omega) h4]
    simp only [List.append_assoc, List.singleton_append, List.length_cons]
    congr 3
    omega
theorem sp_short (b : List Int) (e : Nat) (he : e ≤ b.length) : ∀ (r : List Int) (f : Nat) (acc : List Int) (p : Nat), acc.length + r.length ≤ 32 → r.length < f → Reads b p (spares r ++ [48]) → p ≤ 8 * e → 8 * e < p + 9 * r.length + 1 →
    ∃ acc' a, spP (b.take e) f acc (p : Int) 0 = (acc', a, 5) := by
  have hlen : (b.take e).length = e := by rw [List.length_take]; omega
  intro r
  induction r with
  | nil =>
    intro f acc p _ hf h hp hs
    simp only [List.length_nil] at hs hf
    exact ⟨_, _, spP_stop (take_short1 (b.take e) p (by rw [hlen]; omega)) (by decide) f (by omega)⟩
  | cons x r ih =>
    intro f acc p hn hf h hp hs
    simp only [List.length_cons] at hn hf hs
    by_cases c1 : 8 * e < p + 1
    · exact ⟨_, _, spP_stop (take_short1 (b.take e) p (by rw [hlen]; omega)) (by decide) f (by omega)⟩
    have h' : Reads b p (49 :: (digs x 8 ++ (spares r ++ [48]))) := by
      have := h; rw [spares_cons] at this; simpa using this
    obtain ⟨hb, h2⟩ := h'.cons
    obtain ⟨h3, h4⟩ := h2.split
    rw [digs_length] at h4
    have t1 := take_in1 (b.take e) p (by rw [hlen]; omega)
    rw [bitB_take b e p (by omega), show bitB b p = 1 from hb] at t1
    by_cases c2 : 8 * e < p + 1 + 8
    · exact ⟨_, _, spP_bad t1 (by omega) (take_short8 (b.take e) (p + 1) (by rw [hlen]; omega)) (by decide) f (by omega)⟩
    have t2 := take_in8 (b.take e) (p + 1) (by rw [hlen]; omega)
    obtain ⟨f, rfl⟩ : ∃ q, f = q + 1 := ⟨f - 1, by omega⟩
    rw [spP_more t1 (by omega) t2]
    exact ih f (acc ++ [numB (b.take e) (p + 1) 8]) (p + 1 + 8) (by simp; omega) (by omega) h4 (by omega) (by omega)

theorem get_exact (b : List Int) (hb : OkB b) (p : Nat) (t ty : Int) (s : List Int) (t0 : 0 ≤ t) (t1 : t ≤ 31) (y0 : 0 ≤ ty) (y1 : ty ≤ 63) (hs : OkB s) (hn : s.length ≤ 32) (h : Reads b p (picL t ty s)) :
    picture_Get.f b (p : Int) = some (t, ty, s, ((12 + 9 * s.length : Nat) : Int), 0) := by
  have hb1 := hb.1
  have hl := h.1
  rw [picL_length] at hl
  obtain ⟨h1, h2⟩ := Reads.split h
  rw [digs_length] at h2
  obtain ⟨h3, h4⟩ := Reads.split h2
  rw [digs_length] at h4
  unfold picture_Get.f
  rw [if_pos ⟨hb, by unfold in64; omega⟩]
  have k1 := take_in b p 5 (by omega) (by omega)
  rw [show ((5 : Nat) : Int) = 5 from rfl, num_of h1 t0 (by omega)] at k1
  have k2 := take_in b (p + 5) 6 (by omega) (by omega)
  rw [show ((6 : Nat) : Int) = 6 from rfl, num_of h3 y0 (by omega)] at k2
  rw [getP_of (by omega) k1 k2 (sp_exact b s 34 [] (p + 5 + 6) hs (by simpa using hn) (by omega) h4), if_pos rfl, List.nil_append, i64_w, w64 _ (by omega) (by omega)]
  congr 5
  omega
theorem get_short (b : List Int) (hb : OkB b) (p e : Nat) (he : e ≤ b.length) (t ty : Int) (s : List Int) (hn : s.length ≤ 32) (h : Reads b p (picL t ty s)) (hp : p ≤ 8 * e) (hs : 8 * e < p + 12 + 9 * s.length) :
    picture_Get.f (b.take e) (p : Int) = some (0, 0, [], 0, 5) := by
  have hb1 := hb.1
  have hlen : (b.take e).length = e := by rw [List.length_take]; omega
  have hok : OkB (b.take e) := ⟨by rw [hlen]; omega, fun x hx => hb.2 x (List.mem_of_mem_take hx)⟩
  obtain ⟨h1, h2⟩ := Reads.split h
  rw [digs_length] at h2
  obtain ⟨h3, h4⟩ := Reads.split h2
  rw [digs_length] at h4
  unfold picture_Get.f
  rw [if_pos ⟨hok, by unfold in64; omega⟩]
  by_cases c1 : 8 * e < p + 5
  · have t1 := take_short (b.take e) p 5 (by omega) (by rw [hlen]; exact c1)
    rw [show ((5 : Nat) : Int) = 5 from rfl] at t1
    rw [getP_of (by omega) t1 (take_bad _ _ 5 6 (by decide)) (spP_stop (take_bad _ _ 5 1 (by decide)) (by decide) 34 (by decide))]
    rfl
  have t1 := take_in (b.take e) p 5 (by omega) (by rw [hlen]; omega)
  rw [show ((5 : Nat) : Int) = 5 from rfl] at t1
  by_cases c2 : 8 * e < p + 5 + 6
  · have t2 := take_short (b.take e) (p + 5) 6 (by omega) (by rw [hlen]; exact c2)
    rw [show ((6 : Nat) : Int) = 6 from rfl] at t2
    rw [getP_of (by omega) t1 t2 (spP_stop (take_bad _ _ 5 1 (by decide)) (by decide) 34 (by decide))]
    rfl
  have t2 := take_in (b.take e) (p + 5) 6 (by omega) (by rw [hlen]; omega)
  rw [show ((6 : Nat) : Int) = 6 from rfl] at t2
  obtain ⟨acc', a, hsp⟩ := sp_short b e he s 34 [] (p + 5 + 6) (by simpa using hn) (by omega) h4 (by omega) (by omega)
  rw [getP_of (by omega) t1 t2 hsp]
  rfl

theorem cd_getD (s : ByteArray) (n j : Nat) (h : j < n) : (cd s n).getD j 0 = bt s (j : Int) - 48 := by
  induction n with
  | zero => omega
  | succ n ih =>
    simp only [cd]
    by_cases h1 : j < n
    · rw [List.getD_eq_getElem?_getD, List.getElem?_append_left (by rw [cd_length]; exact h1), ← List.getD_eq_getElem?_getD, ih h1]
    · obtain rfl : j = n := by omega
      rw [List.getD_eq_getElem?_getD, List.getElem?_append_right (by rw [cd_length]; omega), cd_length]
      simp
theorem binT_of {t : List UInt8} (h : Bin t) : BinT (⟨t.toArray⟩ : ByteArray) := by
  intro i hi
  rw [ba_size] at hi
  rw [bt_list t i hi]
  rcases h _ (List.getElem_mem hi) with h | h <;> rw [h]
  · exact .inl rfl
  · exact .inr rfl
/-- Bits that a text put, behind others, are read as the text. -/
theorem reads_packs {A B bs : List Int} {t : List UInt8} (ht : Bin t) (h : Packs ((A ++ cd (⟨t.toArray⟩ : ByteArray) t.length) ++ B) bs) : Reads bs A.length t := by
  have hl := h.len
  have hL : ((A ++ cd (⟨t.toArray⟩ : ByteArray) t.length) ++ B).length = A.length + t.length + B.length := by simp [cd_length]; omega
  refine ⟨by omega, fun j hj => ?_⟩
  rw [h.bit, hL, if_pos (by omega), List.getD_eq_getElem?_getD, List.getElem?_append_left (by simp [cd_length]; omega), List.getElem?_append_right (by omega), show A.length + j - A.length = j from by omega, ← List.getD_eq_getElem?_getD, cd_getD _ _ _ hj, bt_list t j hj, List.getD_eq_getElem?_getD, List.getElem?_eq_getElem hj, Option.getD_some]
  rcases ht _ (List.getElem_mem hj) with h | h <;> rw [h] <;> decide
end Go.Proofs.Ytjbpcffmeaadeaa.Pc
/- The walk of PictureBack, by hand. -/
namespace Go.Proofs.Ytjbpcffmeaadeaa.Pp
open Go.RowKit Go.Proofs.Ytjbpcffmeaadeaa.Pr Go.Proofs.YtjbpcffmeaadeaaW.PrintWords Go.Proofs.YtjbpcffmeaadeaaW.PrintLast Go.Proofs.YtjbpcffmeaadeaaW.PrintMore
set_option linter.unusedVariables false

/-- The bits of bytes put one behind the other. -/
def pb (z : List Int) : Nat → List Int
  | 0 => []
  | n + 1 => pb z n ++ pd (z.getD n 0) 8
theorem pb_length (z : List Int) (n : Nat) : (pb z n).length = 8 * n := by
  induction n with
  | zero => rfl
  | succ n ih => simp [pb, ih, pd_length]; omega

/-- What PictureBack holds beside its pen: the header's box. -/
structure BB (w : World) (t ty : Int) (A : Option Addr) (n c : Nat) (g : Nat) (L : List Int) (W : World) : Prop where
  pen : Pn w g L W
  box : W.heap[w.heap.size]? = some (.cells #[.int .i64 t, .int .i64 ty, .slice A n c] 24 (0, 0))
theorem BB.next {w : World} {t ty : Int} {A : Option Addr} {n c g : Nat} {L : List Int} {W W' : World} (h : BB w t ty A n c g L W) (hb : Below W.heap.size W W') : BB w t ty A n c g L W' := ⟨h.pen.next hb, blk_below h.box hb⟩
theorem BB.same {w : World} {t ty : Int} {A : Option Addr} {n c g : Nat} {L L' : List Int} {W W' : World} (h : BB w t ty A n c g L W) (hp : Pn w g L' W') (hs : Pp.Same 5 71 W W') : BB w t ty A n c g L' W' := ⟨hp, hs.blk h.box (by decide) (by decide)⟩

attribute [local go_sem] max2_int min2_int max_two min_two
set_option maxHeartbeats 16000000 in
set_option maxRecDepth 100000 in
theorem back_walk (t ty : Int) (A0 : Option Addr) (c0 : Nat) (l0 : List Int) (a1 : Int) (A2 : Option Addr) (c2 : Nat) (l2 : List Int) (w : World) (m k : Nat) (x : ByteArray) (e : Int)
    (hC0 : Kd.C (Kd.int .u8) w A0 l0.length l0) (hc0 : l0.length ≤ c0) (hC2 : Kd.C (Kd.int .u8) w A2 l2.length l2) (hc2 : l2.length ≤ c2) (hb2 : OkB l2)
    (hk : praxinoscopelaw17_PictureKnown.f k = some true) (hm : praxinoscopekit_Pick.f a1 41 = some (m : Int)) (hm2 : m ≤ 40)
    (hp : l0.length ≤ 40 → picture_Put.f k t ty l0 = some (x, e)) (hbad : e ≠ 0 → x = ⟨#[]⟩ ∧ e = 2 ∧ picture_Check.f t ty l0 = some 2)
    (hgood : e = 0 → BinT x ∧ x.size = 12 + 9 * l0.length ∧ l0.length ≤ 32)
    (hfin : e = 0 → ∀ bs, Packs ((List.replicate m 1 ++ cd x x.size) ++ pb l2 l2.length) bs → praxinoscopelaw17_gets.f bs (m : Int) t ty l0 (x.size : Int) 0 = some true ∧ praxinoscopelaw17_gets.f (bs.take ((m + x.size - 1) / 8)) (m : Int) 0 0 [] 0 5 = some true) :
    Calls Try.prog 9 #[.agg #[.int .i64 t, .int .i64 ty, .slice A0 l0.length c0], .int .i64 a1, .slice A2 l2.length c2] w fun e w' => e = .returned (.bool true) ∧ Below w.heap.size w w' := by
  have hu24 := Try.underlying24
  have HC0 := Aside0.mk hC0
  have HC2 := Aside0.mk hC2
  have Hb2 := Aside0.mk hb2
  have Hk := Aside0.mk hk
  have Hm := Aside0.mk hm
  have Hp := Aside0.mk hp
  have Hbad := Aside0.mk hbad
  have Hgood := Aside0.mk hgood
  have Hfin := Aside0.mk hfin
  clear hC0 hC2 hb2 hk hm hp hbad hgood hfin
  have hlong : (decide ((l0.length : Int) > 40) = true) ∨ (decide ((l0.length : Int) > 40) = false ∧ decide ((l2.length : Int) > 20) = true) ∨ (l0.length ≤ 40 ∧ l2.length ≤ 20) := by
    by_cases h1 : (l0.length : Int) > 40
    · exact .inl (decide_eq_true h1)
    · by_cases h2 : (l2.length : Int) > 20
      · exact .inr (.inl ⟨decide_eq_false h1, decide_eq_true h2⟩)
      · exact .inr (.inr ⟨by omega, by omega⟩)
  go_enter Try.func9, Try.ntmps9
  go_wp2_with (fail)
  refine (praxinoscopelaw17_PictureKnown.calls k true _ Hk.out).mono ?_
  rintro e w1 ⟨rfl, hB⟩
  have HX := Aside0.mk (blk_below (blk_new w (Obj.cells #[.int .i64 t, .int .i64 ty, .slice A0 l0.length c0] 24)) hB)
  have HB := Aside0.mk (below_step (below_alloc (Below.refl _ _) _) hB)
  clear hB
  go_wp2_with (fail)
  refine (pn_new HB.out).mono ?_
  rintro e w2 ⟨rfl, hpn, hB⟩
  have HP := Aside0.mk (BB.mk hpn (blk_below HX.out hB))
  clear hpn hB HX HB
  have hx2 : w2.cell? ⟨w.heap.size, 2, none⟩ = some (.slice A0 l0.length c0) := (blk_cell HP.out.box 2).trans rfl
  obtain ⟨g, hg⟩ : ∃ g, w1.heap.size = g := ⟨_, rfl⟩
  rw [hg] at HP
  rcases hlong with h1 | ⟨h1, h2⟩ | ⟨h1, h2⟩
  · have h1' : decide (40 < (l0.length : Int)) = true := h1
    go_wp2
    go_ret
    exact ⟨rfl, HP.out.pen.below⟩
  · have h1' : decide (40 < (l0.length : Int)) = false := h1
    have h2' : decide (20 < (l2.length : Int)) = true := h2
    go_wp2
    go_ret
    exact ⟨rfl, HP.out.pen.below⟩
  · have h3 : decide ((l0.length : Int) > 40) = false := decide_eq_false (by omega)
    have h3' : decide (40 < (l0.length : Int)) = false := h3
    have h4 : decide ((l2.length : Int) > 20) = false := decide_eq_false (by omega)
    have h4' : decide (20 < (l2.length : Int)) = false := h4
    go_wp2_with (fail)
    refine (praxinoscopekit_Pick.calls a1 41 m _ Hm.out).mono ?_
    rintro e w3 ⟨rfl, hd⟩
    have m_ := Aside0.mk (HP.out.next (drawn_below hd)); clear HP hd; have HP := m_; clear m_ hx2
    go_wp2_with (fail)
    go_loopw [9] (fun v9 wr => ∃ i : Nat, v9 = .int .i64 (i : Int) ∧ i ≤ m ∧ Aside0 (BB w t ty A0 l0.length c0 g (List.replicate i 1) wr)) (fun v9 _ => m - (intOf v9).toNat)
    case atStart => exact ⟨0, rfl, by omega, HP⟩
    case round =>
      clear HP
      obtain ⟨i, rfl, hi, HR⟩ := hrel
      by_cases him : (i : Int) < (m : Int)
      · have hd : decide ((i : Int) < (m : Int)) = true := decide_eq_true him
        have hwi : IntKind.i64.wrap ((i : Int) + 1) = ((i + 1 : Nat) : Int) := by rw [IntKind.wrap_i64]; omega
        go_wp2_with (fail)
        refine (pn_put 1 1 HR.out.pen (by decide) (by decide) (by decide) (by decide) (by simp; omega)).mono ?_
        rintro e w5 ⟨rfl, hp, hs⟩
        have HR2 := Aside0.mk (HR.out.same hp hs)
        clear hp hs HR
        go_wp2
        go_roundw
        case rel => exact ⟨i + 1, rfl, by omega, ⟨by rw [List.replicate_succ']; exact HR2.out⟩⟩
        case measure => simp [intOf]; omega
      · have hd : decide ((i : Int) < (m : Int)) = false := decide_eq_false him
        obtain rfl : i = m := by omega
        have hx0 : wr.cell? ⟨w.heap.size, 0, none⟩ = some (.int .i64 t) := (blk_cell HR.out.box 0).trans rfl
        have hx1 : wr.cell? ⟨w.heap.size, 1, none⟩ = some (.int .i64 ty) := (blk_cell HR.out.box 1).trans rfl
        have hx2 : wr.cell? ⟨w.heap.size, 2, none⟩ = some (.slice A0 l0.length c0) := (blk_cell HR.out.box 2).trans rfl
        go_wp2_with (fail)
        refine (picture_Put.calls k t ty A0 c0 l0 x e _ (Kd.C_below HC0.out HR.out.pen.below) hc0 (Hp.out h1)).mono ?_
        rintro e_ w5 ⟨rfl, hd⟩
        have m_ := Aside0.mk (HR.out.next hd); clear HR hd hx0 hx1 hx2; have HR := m_; clear m_
        have hx0 : w5.cell? ⟨w.heap.size, 0, none⟩ = some (.int .i64 t) := (blk_cell HR.out.box 0).trans rfl
        have hx1 : w5.cell? ⟨w.heap.size, 1, none⟩ = some (.int .i64 ty) := (blk_cell HR.out.box 1).trans rfl
        have hx2 : w5.cell? ⟨w.heap.size, 2, none⟩ = some (.slice A0 l0.length c0) := (blk_cell HR.out.box 2).trans rfl
        by_cases he : e = 0
        · subst he
          obtain ⟨hbin, hsz, hn32⟩ := Hgood.out rfl
          have Hfin2 := Aside0.mk (Hfin.out rfl)
          clear Hgood Hfin Hbad Hp
          have h5 : decide ((l0.length : Int) > 32) = false := decide_eq_false (by omega)
          have h5' : decide (32 < (l0.length : Int)) = false := h5
          go_wp2_with (fail)
          refine (pn_code x HR.out.pen hbin (by omega) (by simp; omega)).mono ?_
          rintro e_ w6 ⟨rfl, hp, hs⟩
          have HR2 := Aside0.mk (HR.out.same hp hs)
          clear hp hs HR hx0 hx1 hx2
          have hx2 : w6.cell? ⟨w.heap.size, 2, none⟩ = some (.slice A0 l0.length c0) := (blk_cell HR2.out.box 2).trans rfl
          have hw9 : IntKind.i64.wrap (9 * (l0.length : Int)) = 9 * (l0.length : Int) := by rw [IntKind.wrap_i64]; omega
          have hw12 : IntKind.i64.wrap (12 + 9 * (l0.length : Int)) = 12 + 9 * (l0.length : Int) := by rw [IntKind.wrap_i64]; omega
          have hs1 : ((x.size : Int) != 12 + 9 * (l0.length : Int)) = false := bne_eq_false_iff_eq.2 (by omega)
          have hlen : (List.replicate i (1 : Int) ++ cd x x.size).length = i + x.size := by simp [cd_length]
          obtain ⟨N, hN⟩ : ∃ N, i + x.size = N := ⟨_, rfl⟩
          have hpl := pn_len HR2.out.pen
          rw [hlen, hN] at hpl
          have Hpl := Aside0.mk hpl
          clear hpl
          go_wp2_with (fail)
          refine Hpl.out.mono ?_
          rintro e_ w7 ⟨rfl, rfl⟩
          have hv1 : IntKind.i64.wrap ((N : Int) - 1) = (N : Int) - 1 := by rw [IntKind.wrap_i64]; omega
          obtain ⟨E, hE⟩ : ∃ E, (N - 1) / 8 = E := ⟨_, rfl⟩
          have hv2 : Int.tdiv ((N : Int) - 1) 8 = (E : Int) := by rw [Int.tdiv_eq_ediv_of_nonneg (by omega)]; omega
          have hv3 : IntKind.i64.wrap (E : Int) = (E : Int) := by rw [IntKind.wrap_i64]; omega
          clear Hpl hw9 hw12 hs1
          go_wp2_with (fail)
          go_loopw [13] (fun v13 wr => ∃ j : Nat, v13 = .int .i64 (j : Int) ∧ j ≤ l2.length ∧ Aside0 (BB w t ty A0 l0.length c0 g ((List.replicate i 1 ++ cd x x.size) ++ pb l2 j) wr)) (fun v13 _ => l2.length - (intOf v13).toNat)
          case atStart => exact ⟨0, rfl, by omega, ⟨by simpa [pb] using HR2.out⟩⟩
          case round =>
            clear HR2 hx2
            obtain ⟨j, rfl, hj, HR⟩ := hrel
            by_cases hjm : (j : Int) < (l2.length : Int)
            · have hd : decide ((j : Int) < (l2.length : Int)) = true := decide_eq_true hjm
              have hwi : IntKind.i64.wrap ((j : Int) + 1) = ((j + 1 : Nat) : Int) := by rw [IntKind.wrap_i64]; omega
              obtain ⟨ad, rfl, hcell⟩ := (Kd.reads_of_C (enc := Value.int .u8) (d := (0 : Int)) (h1 := fun _ => rfl) (Kd.C_below HC2.out HR.out.pen.below)).at_ (j : Int) (by omega) hjm
              have hjn : ((j : Int)).toNat = j := by omega
              have hy := Hb2.out.getD j
              have hrd : rdOf 0 l2 (j : Int) = l2.getD j 0 := by unfold rdOf; rw [hjn]
              rw [hrd, hjn] at hcell
              obtain ⟨y, hyy⟩ : ∃ y, l2.getD j 0 = y := ⟨_, rfl⟩
              rw [hyy] at hcell hy
              have Hyy := Aside0.mk hyy
              have hwy : IntKind.i64.wrap y = y := by rw [IntKind.wrap_i64]; omega
              clear hyy hrd
              go_wp2_with (fail)
              refine (pn_put y 8 HR.out.pen (by decide) (by omega) (by omega) (by omega) (by simp [cd_length, pb_length]; omega)).mono ?_
              rintro e_ w8 ⟨rfl, hp, hs⟩
              have HR3 := Aside0.mk (HR.out.same hp hs)
              clear hp hs HR hcell
              go_wp2
              go_roundw
              case rel => exact ⟨j + 1, rfl, by omega, ⟨by simp only [pb]; rw [Hyy.out, ← List.append_assoc]; exact HR3.out⟩⟩
              case measure => simp [intOf]; omega
            · have hd : decide ((j : Int) < (l2.length : Int)) = false := decide_eq_false hjm
              obtain rfl : j = l2.length := by omega
              go_wp2_with (fail)
              refine (pn_bytes HR.out.pen (by simp [cd_length, pb_length]; omega)).mono ?_
              rintro e_ w8 ⟨v1, bs1, rfl, hr1, hpk, hb8, hp⟩
              have HR3 := Aside0.mk (HR.out.next hb8)
              obtain ⟨A1, c1, rfl⟩ := Kd.R_slice hr1
              have HO1 := Aside0.mk hr1
              have hbl := hpk.len
              have hfin := Hfin2.out bs1 hpk
              have HF := Aside0.mk hfin
              have hEb : E ≤ bs1.length := by rw [hbl]; simp [cd_length, pb_length]; omega
              clear hr1 hpk hp hb8 HR hfin hbl
              have hx0 : w8.cell? ⟨w.heap.size, 0, none⟩ = some (.int .i64 t) := (blk_cell HR3.out.box 0).trans rfl
              have hx1 : w8.cell? ⟨w.heap.size, 1, none⟩ = some (.int .i64 ty) := (blk_cell HR3.out.box 1).trans rfl
              have hx2 : w8.cell? ⟨w.heap.size, 2, none⟩ = some (.slice A0 l0.length c0) := (blk_cell HR3.out.box 2).trans rfl
              have hxs : (x.size : Int) = 12 + 9 * (l0.length : Int) := by omega
              have hf1 := HF.out.1
              rw [hxs] at hf1
              have Hf1 := Aside0.mk hf1
              have hf2 := HF.out.2
              rw [hN, hE] at hf2
              have hEt : (bs1.take E).length = E := by rw [List.length_take]; omega
              have Hf2 := Aside0.mk hf2
              clear hf1 hf2 HF
              go_wp2_with (fail)
              refine (praxinoscopelaw17_gets.calls A1 c1 bs1 (i : Int) t ty A0 c0 l0 _ 0 true _ (Kd.R_reads' HO1.out).2.2 (Kd.R_reads' HO1.out).2.1 (Kd.C_below HC0.out HR3.out.pen.below) hc0 Hf1.out).mono ?_
              rintro e_ w9 ⟨rfl, hd9⟩
              have HR4 := Aside0.mk (HR3.out.next hd9)
              have HO2 := Aside0.mk (Kd.R_below HO1.out hd9)
              clear hd9 HR3 HO1 hx0 hx1 hx2 Hf1 hxs
              have hv8 : IntKind.i64.wrap ((E : Int) * 8) = (E : Int) * 8 := by rw [IntKind.wrap_i64]; omega
              have hlt8 : decide ((E : Int) * 8 < (i : Int)) = false := decide_eq_false (by omega)
              have hmin : ¬ ((bs1.length : Int) < (E : Int)) := by omega
              obtain ⟨i0, hi0, _, hsz0, _⟩ := info_parts info5
              have hcut := cut_to (P := Try.prog) 22 5 .i64 Try.underlying22 hi0 A1 bs1.length c1 (E : Int) (by omega) (by omega) (Kd.R_reads' HO2.out).2.1
              rw [show ((E : Int)).toNat = E from by omega] at hcut
              clear hi0 hsz0
              have HO3 := Aside0.mk (Kd.R_reads' (Kd.R_take (m := E) HO2.out hEb))
              have hg2 := praxinoscopelaw17_gets.calls A1 c1 (bs1.take E) (i : Int) 0 0 none 0 [] 0 5 true w9 HO3.out.2.2 (by rw [hEt]; exact HO3.out.2.1) (Kd.C_nil _ _) (by simp) Hf2.out
              rw [hEt] at hg2
              have Hg2 := Aside0.mk hg2
              clear hg2
              go_wp2_with (fail)
              refine Hg2.out.mono ?_
              rintro e_ w10 ⟨rfl, hd10⟩
              have HR5 := Aside0.mk (HR4.out.next hd10)
              clear hd10 HR4 HO2 HO3 Hg2
              go_wp2
              go_ret
              exact ⟨rfl, HR5.out.pen.below⟩
        · have heb : (e != 0) = true := bne_iff_ne.2 he
          obtain ⟨rfl, rfl, hck⟩ := Hbad.out he
          have Hck := Aside0.mk hck
          clear hck Hgood Hfin
          go_wp2_with (fail)
          refine (picture_Check.calls t ty A0 c0 l0 2 _ (Kd.C_below HC0.out HR.out.pen.below) hc0 Hck.out).mono ?_
          rintro e_ w6 ⟨rfl, hd⟩
          have m_ := Aside0.mk (HR.out.next hd); clear HR hd; have HR := m_; clear m_
          go_wp2
          go_ret
          exact ⟨rfl, HR.out.pen.below⟩
end Go.Proofs.Ytjbpcffmeaadeaa.Pp
/- PictureBack: the walk and the plain law, joined. -/
namespace Go.Proofs.Ytjbpcffmeaadeaa.Pp
open Go.RowKit Go.Proofs.Ytjbpcffmeaadeaa.Pr Go.Proofs.Ytjbpcffmeaadeaa.Pc Go.Proofs.YtjbpcffmeaadeaaW.PrintWords Go.Proofs.YtjbpcffmeaadeaaW.PrintLast Go.Proofs.YtjbpcffmeaadeaaW.PrintMore

theorem head_same (t ty : Int) (s : List Int) : praxinoscopekit_SameHead.f t ty s t ty s = some true := by simp [praxinoscopekit_SameHead.f, praxinoscopekit_SameBytes.f]

theorem back_fin (t ty : Int) (s : List Int) (t0 : 0 ≤ t) (t1 : t ≤ 31) (y0 : 0 ≤ ty) (y1 : ty ≤ 63) (hs : OkB s) (hn : s.length ≤ 32) (m : Nat) (B bs : List Int)
    (h : Packs ((List.replicate m 1 ++ cd (⟨(picL t ty s).toArray⟩ : ByteArray) (⟨(picL t ty s).toArray⟩ : ByteArray).size) ++ B) bs) :
    praxinoscopelaw17_gets.f bs (m : Int) t ty s ((⟨(picL t ty s).toArray⟩ : ByteArray).size : Int) 0 = some true ∧
    praxinoscopelaw17_gets.f (bs.take ((m + (⟨(picL t ty s).toArray⟩ : ByteArray).size - 1) / 8)) (m : Int) 0 0 [] 0 5 = some true := by
  rw [ba_size] at h ⊢
  have hr := reads_packs (picL_bin t ty s) h
  rw [List.length_replicate] at hr
  have hl := hr.1
  have hpl := picL_length t ty s
  rw [hpl] at hl ⊢
  refine ⟨?_, ?_⟩
  · unfold praxinoscopelaw17_gets.f
    rw [get_exact bs h.ok m t ty s t0 t1 y0 y1 hs hn hr, Option.bind_some]
    simp only [head_same, Option.bind_some, if_true]
    rfl
  · unfold praxinoscopelaw17_gets.f
    rw [get_short bs h.ok m ((m + (12 + 9 * s.length) - 1) / 8) (by omega) t ty s hn hr (by omega) (by omega), Option.bind_some]
    simp only [head_same, Option.bind_some, if_true]
    rfl

theorem pictureBack_walk (t ty : Int) (a0 : Option Addr) (len0 cap0 : Nat) (z0 : List Int) (a1 : Int) (a2 : Option Addr) (len2 cap2 : Nat) (z2 : List Int) (w : World)
    (w0 : (a0 = none ∧ len0 = 0 ∧ cap0 = 0 ∧ z0 = []) ∨ ∃ x, a0 = some x ∧ len0 ≤ cap0 ∧ cap0 ≤ maxLen ∧ z0.length = cap0 ∧ (∀ i, i < z0.length → w.cell? (x.add i) = some (.int .u8 (z0.getD i 0))) ∧ ∀ n ∈ z0, (Lit.int .u8 n).wf = true)
    (w2 : (a2 = none ∧ len2 = 0 ∧ cap2 = 0 ∧ z2 = []) ∨ ∃ x, a2 = some x ∧ len2 ≤ cap2 ∧ cap2 ≤ maxLen ∧ z2.length = cap2 ∧ (∀ i, i < z2.length → w.cell? (x.add i) = some (.int .u8 (z2.getD i 0))) ∧ ∀ n ∈ z2, (Lit.int .u8 n).wf = true)
    (hb : len2 * 1 ≤ 140737488351232) :
    Calls Try.prog 9 #[.agg #[.int .i64 t, .int .i64 ty, .slice a0 len0 cap0], .int .i64 a1, .slice a2 len2 cap2] w fun e w' => e = .returned (.bool true) ∧ Below w.heap.size w w' := by
  obtain ⟨l0, rfl, hr0, hm0, hw0, hc0⟩ := ReadsInt.ofRowC w0
  obtain ⟨l2, rfl, hr2, hm2, hw2, hc2⟩ := ReadsInt.ofRowC w2
  have hC0 := Kd.C_of_reads (d := (0 : Int)) (h1 := fun _ => rfl) hr0
  have hC2 := Kd.C_of_reads (d := (0 : Int)) (h1 := fun _ => rfl) hr2
  have hb2 := OkB.of_wf (l := l2) hb hw2
  obtain ⟨m, hm, m0, m1⟩ := pick_eq a1 41 (by decide) (by decide)
  obtain ⟨m, rfl⟩ := Int.eq_ofNat_of_zero_le m0
  have hk : praxinoscopelaw17_PictureKnown.f 2000 = some true := mono_le _ praxinoscopelaw17_PictureKnown.mono (show 60 ≤ 2000 by decide) (by decide +kernel)
  by_cases hok : 0 ≤ t ∧ t ≤ 31 ∧ 0 ≤ ty ∧ ty ≤ 63 ∧ l0.length ≤ 32
  · obtain ⟨t0, t1, y0, y1, hn⟩ := hok
    have hb0 := OkB.of_wf (l := l0) (by omega) hw0
    refine back_walk t ty a0 cap0 l0 a1 a2 cap2 l2 w m 2000 ⟨(picL t ty l0).toArray⟩ 0 hC0 hc0 hC2 hc2 hb2 hk hm (by omega) (fun _ => put_eq t ty l0 t0 t1 y0 y1 hb0 hn 2000 (by omega)) (fun h => absurd rfl h)
      (fun _ => ⟨binT_of (picL_bin t ty l0), by rw [ba_size, picL_length], hn⟩) (fun _ bs hp => back_fin t ty l0 t0 t1 y0 y1 hb0 hn m _ bs hp)
  · have hno : t < 0 ∨ 31 < t ∨ ty < 0 ∨ 63 < ty ∨ 32 < l0.length := by omega
    exact back_walk t ty a0 cap0 l0 a1 a2 cap2 l2 w m 2000 ⟨#[]⟩ 2 hC0 hc0 hC2 hc2 hb2 hk hm (by omega) (fun _ => put_no t ty l0 hno 2000) (fun _ => ⟨rfl, rfl, check_no t ty l0 hno⟩)
      (fun h => absurd h (by decide)) (fun h => absurd h (by decide))
end Go.Proofs.Ytjbpcffmeaadeaa.Pp
