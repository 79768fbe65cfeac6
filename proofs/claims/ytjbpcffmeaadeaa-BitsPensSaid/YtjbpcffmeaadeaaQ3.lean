import Derived.Test.YtjbpcffmeaadeaaQ2
import Derived.Deep.RegionWith
/- The contract of the reference's pen's Bytes. -/
namespace Go.Proofs.Ytjbpcffmeaadeaa.Pp
open Go.RowKit Go.Proofs.Ytjbpcffmeaadeaa.Pr Go.Proofs.YtjbpcffmeaadeaaW.PrintWords Go.Proofs.YtjbpcffmeaadeaaW.PrintLast Go.Proofs.YtjbpcffmeaadeaaW.PrintMore
set_option linter.unusedVariables false

/-- The first i bits lie in the bytes, noughts behind them. -/
structure Part (L : List Int) (i : Nat) (xs : List Int) : Prop where
  ok : OkB xs
  len : xs.length = (L.length + 7) / 8
  bit : ∀ j, bitB xs j = if j < i then L.getD j 0 else 0
theorem Part.zero (L : List Int) (hl : L.length ≤ 1000000) : Part L 0 (List.replicate ((L.length + 7) / 8) 0) := by
  refine ⟨⟨by simp; omega, fun x hx => by rw [List.eq_of_mem_replicate hx]; omega⟩, by simp, fun j => by rw [bitB_zeros, if_neg (by omega)]⟩
theorem Part.packs {L xs : List Int} (h : Part L L.length xs) (hb : ∀ x ∈ L, x = 0 ∨ x = 1) : Packs L xs := ⟨h.ok, h.len, h.bit, hb⟩
theorem Part.step {L xs : List Int} {i : Nat} (h : Part L i xs) (hi : i < L.length) (x : Int) (hx : L.getD i 0 = x) (h01 : x = 0 ∨ x = 1) :
    Part L (i + 1) (xs.set (i / 8) (Go.bits .or .u8 (xs.getD (i / 8) 0) (x * 2 ^ (7 - i % 8)))) := by
  have hlen := h.len
  have hgl : i / 8 < xs.length := by omega
  have hg := h.ok.getD (i / 8)
  obtain ⟨v, hv⟩ : ∃ v : Nat, xs.getD (i / 8) 0 = (v : Int) := ⟨(xs.getD (i / 8) 0).toNat, by omega⟩
  have hself : xs.set (i / 8) (xs.getD (i / 8) 0) = xs := by
    rw [List.getD_eq_getElem?_getD, List.getElem?_eq_getElem hgl, Option.getD_some, List.set_getElem_self]
  have hif : ∀ j, (if j < i + 1 then L.getD j 0 else 0) = if j = i then x else if j < i then L.getD j 0 else 0 := by
    intro j
    by_cases h1 : j = i
    · subst h1; rw [if_pos (by omega), if_pos rfl, hx]
    · by_cases h2 : j < i
      · rw [if_pos (by omega), if_neg h1, if_pos h2]
      · rw [if_neg (by omega), if_neg h1, if_neg h2]
  rcases h01 with rfl | rfl
  · rw [Int.zero_mul, hv, or_zero v (by omega), ← hv, hself]
    refine ⟨h.ok, h.len, fun j => ?_⟩
    rw [hif j, h.bit j]
    by_cases h1 : j = i
    · subst h1; rw [if_pos rfl, if_neg (by omega)]
    · rw [if_neg h1]
  · rw [Int.one_mul]
    refine ⟨set_ok _ h.ok i, by rw [List.length_set]; exact h.len, fun j => ?_⟩
    rw [hif j, set_bit _ h.ok i hgl j, h.bit j]

set_option maxHeartbeats 16000000 in
set_option maxRecDepth 100000 in
theorem ref_bytes_calls {w W : World} {g : Nat} {L : List Int} (h : RefS w g L W) (hbin : ∀ x ∈ L, x = 0 ∨ x = 1) (hl : L.length ≤ 1000000) :
    Calls Try.prog 59 #[.pointer (some ⟨g, 0, none⟩)] W fun e W' => ∃ v bs, e = .returned v ∧ Kd.R (Kd.int .u8) 5 W' W.heap.size (fun _ => True) v bs ∧ Packs L bs ∧ Below W.heap.size W W' := by
  have H := Aside0.mk h
  have Hbin := Aside0.mk hbin
  obtain ⟨v, hb, hR⟩ := h.pen
  obtain ⟨A, c, rfl⟩ := Kd.R_slice hR
  have hc0 : W.cell? ⟨g, 0, none⟩ = some (.slice A L.length c) := (blk_cell hb 0).trans rfl
  have hw7 : IntKind.i64.wrap ((L.length : Int) + 7) = (L.length : Int) + 7 := by rw [IntKind.wrap_i64]; omega
  have hdv : Int.tdiv ((L.length : Int) + 7) 8 = (((L.length + 7) / 8 : Nat) : Int) := by rw [Int.tdiv_eq_ediv_of_nonneg (by omega)]; omega
  obtain ⟨N, hN⟩ : ∃ N, (L.length + 7) / 8 = N := ⟨_, rfl⟩
  rw [hN] at hdv
  have hwN : IntKind.i64.wrap (N : Int) = (N : Int) := by rw [IntKind.wrap_i64]; omega
  have Hb := Aside0.mk hb
  have HR := Aside0.mk hR
  clear h hbin hb hR
  go_enter Try.func59, Try.ntmps59
  go_wp2_with ((with_reducible refine gate_dst (N := 12) rfl ?_); refine hold ?_)
  refine ⟨?_⟩
  refine Kd.R_make (Kd.int .u8) (w0 := W) W.heap.size 5 rfl (N := 12) rfl 22 (.tmp 11) (.tmp 11) rfl (N : Int) rfl rfl Try.underlying22 (.int .u8 0) 1 info5 rfl (by decide) (by decide) 0 (ok := fun _ => True) (okp := fun _ => False) (show Kd.M (Kd.int .u8) _ _ _ 0 [.int .u8 0] from rfl) (fun _ hk => hk.elim) trivial (by omega) (by omega) (Below.refl _ _) (Nat.le_refl _) ?_
  intro v1 w1 hr1 hb1 hg1 hat1
  have hrl : (List.replicate ((N : Int)).toNat (0 : Int)).length = N := by simp
  obtain ⟨A1, c1, rfl⟩ := Kd.R_slice hr1
  rw [hrl] at hr1
  have HO := Aside0.mk (show Kd.R (Kd.int .u8) 5 w1 W.heap.size (fun _ => True) (.slice A1 N c1) (List.replicate N 0) by have := hr1; rw [show ((N : Int)).toNat = N from by omega] at this; exact this)
  have HB1 := Aside0.mk hb1
  have HP1 := Aside0.mk (show Part L 0 (List.replicate N 0) by rw [← hN]; exact Part.zero L hl)
  clear hr1 hb1 hg1 hat1
  go_wp2_with (fail)
  go_loopw [4] (fun v4 wr => ∃ (i : Nat) (xs : List Int), v4 = .int .i64 (i : Int) ∧ i ≤ L.length ∧ Aside0 (Part L i xs) ∧ Aside0 (Kd.R (Kd.int .u8) 5 wr W.heap.size (fun _ => True) (.slice A1 N c1) xs) ∧ Aside0 (Below W.heap.size W wr)) (fun v4 _ => L.length - (intOf v4).toNat)
  case atStart => exact ⟨0, _, rfl, by omega, HP1, HO, HB1⟩
  case round =>
    clear HO HB1 HP1 hc0
    obtain ⟨i, xs, rfl, hi, HP, HX, HB⟩ := hrel
    have hb2 := blk_below Hb.out HB.out
    have hc0 : wr.cell? ⟨g, 0, none⟩ = some (.slice A L.length c) := (blk_cell hb2 0).trans rfl
    by_cases hlt : (i : Int) < (L.length : Int)
    · have hd : decide ((i : Int) < (L.length : Int)) = true := decide_eq_true hlt
      have hxl : xs.length = N := by rw [HP.out.len, hN]
      have hi0 : (0 : Int) ≤ (i : Int) / 8 := by omega
      have hi1 : (i : Int) / 8 < (N : Int) := by omega
      have hX := HX.out
      rw [← hxl] at hX
      obtain ⟨r, c', e', hr0, _, _, HGr⟩ := Kd.R_form hX (by omega)
      simp only [Value.slice.injEq, true_and] at e'
      obtain ⟨rfl, rfl⟩ := e'
      obtain ⟨hce, hfe⟩ := Kd.R_celln (0 : Int) hX ((i : Int) / 8) hi0 (by omega)
      obtain ⟨u0, hu0⟩ : ∃ u, rdOf 0 xs ((i : Int) / 8) = u := ⟨_, rfl⟩
      rw [hu0] at hce
      have hRw := Kd.R_below HR.out HB.out
      obtain ⟨ad, rfl, hcell⟩ := (Kd.reads_of_C (enc := Value.int .i64) (d := (0 : Int)) (h1 := fun _ => rfl) (Kd.R_reads' hRw).2.2).at_ (i : Int) (by omega) hlt
      obtain ⟨x, hx⟩ : ∃ x, L.getD i 0 = x := ⟨_, rfl⟩
      have hrd : rdOf 0 L (i : Int) = x := by unfold rdOf; rw [show ((i : Int)).toNat = i from by omega]; exact hx
      rw [hrd, show ((i : Int)).toNat = i from by omega] at hcell
      have hx01 : x = 0 ∨ x = 1 := Hbin.out x (by rw [← hx, List.getD_eq_getElem?_getD, List.getElem?_eq_getElem (by omega), Option.getD_some]; exact List.getElem_mem _)
      have hwx : IntKind.u8.wrap x = x := by rw [IntKind.wrap_u8]; omega
      have hm8 : Int.tmod (i : Int) 8 = (i : Int) % 8 := Int.tmod_eq_emod_of_nonneg (by omega)
      have hd8 : Int.tdiv (i : Int) 8 = (i : Int) / 8 := Int.tdiv_eq_ediv_of_nonneg (by omega)
      have hwq : IntKind.i64.wrap ((i : Int) / 8) = (i : Int) / 8 := by rw [IntKind.wrap_i64]; omega
      have hw7i : IntKind.i64.wrap (7 - (i : Int) % 8) = 7 - (i : Int) % 8 := by rw [IntKind.wrap_i64]; omega
      have hwu : IntKind.u64.wrap (7 - (i : Int) % 8) = 7 - (i : Int) % 8 := by rw [IntKind.wrap_u64]; omega
      have hwi : IntKind.i64.wrap ((i : Int) + 1) = ((i + 1 : Nat) : Int) := by rw [IntKind.wrap_i64]; omega
      have Hu := Aside0.mk hu0
      have Hx := Aside0.mk hx
      have HX2 := Aside0.mk hX
      clear hX hu0 hx hrd HGr hRw hb2
      go_wp2_with (fail)
      go_region_with (fail)
      all_goals
        go_wp2
        go_roundw
        case rel =>
          have e1 : ((i : Int) / 8).toNat = i / 8 := by omega
          have e3 : x * 2 ^ (7 - i % 8) % 256 = x * 2 ^ (7 - i % 8) := shl_bit x hx01 _ (by omega)
          have e4 : rdOf 0 xs ((i : Int) / 8) = xs.getD (i / 8) 0 := by unfold rdOf; rw [e1]
          have hput := Kd.R_putn HX2.out ((i : Int) / 8) (Go.bits .or .u8 u0 (x * 2 ^ (7 - i % 8)))
          have hstep := HP.out.step (by omega) x Hx.out hx01
          rw [← e4, Hu.out] at hstep
          rw [e1, hxl] at hput
          rw [e3]
          exact ⟨i + 1, _, rfl, by omega, ⟨hstep⟩, ⟨Kd.R_drew hput⟩, ⟨below_drew (HB.out.setCell (p := ⟨r, i / 8, none⟩) hr0 _)⟩⟩
        case measure => simp [intOf]; omega
    · have hd : decide ((i : Int) < (L.length : Int)) = false := decide_eq_false hlt
      obtain rfl : i = L.length := by omega
      go_wp2
      go_ret
      first | exact ⟨_, xs, rfl, HX.out, HP.out.packs Hbin.out, HB.out⟩ | exact ⟨_, rfl, xs, HX.out, HP.out.packs Hbin.out, HB.out⟩
end Go.Proofs.Ytjbpcffmeaadeaa.Pp
