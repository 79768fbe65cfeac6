import Derived.Test.YtjbpcffmeaadeaaP1
import Derived.Deep.RegionWith
/- The contract of a pen's write. -/
namespace Go.Proofs.Ytjbpcffmeaadeaa.Pp
open Go.RowKit Go.Proofs.Ytjbpcffmeaadeaa.Pr Go.Proofs.YtjbpcffmeaadeaaW.PrintWords Go.Proofs.YtjbpcffmeaadeaaW.PrintLast Go.Proofs.YtjbpcffmeaadeaaW.PrintMore

/-- A pen that NewPen made, with the bits L: its block is g, its bytes lie in a block of its own. -/
def PenS (base : Nat) (ok : Nat → Prop) (g : Nat) (L : List Int) (W : World) : Prop :=
  ∃ bs v, W.heap[g]? = some (.cells #[v, .int .i64 (L.length : Int), .bool true] 71 (0, 0)) ∧ Kd.R (Kd.int .u8) 5 W base ok v bs ∧ Packs L bs

theorem shl_bit (x : Int) (hx : x = 0 ∨ x = 1) (n : Nat) (hn : n ≤ 7) : x * 2 ^ n % 256 = x * 2 ^ n := by
  have h7 : ∀ n < 8, (2 : Int) ^ n ≤ 128 ∧ (1 : Int) ≤ 2 ^ n := by decide
  have := h7 n (by omega)
  rcases hx with rfl | rfl
  · simp
  · rw [Int.one_mul]; omega

/-- The bytes turned at one place, the pen's count told up: the pen as it is behind a write. -/
theorem PenS.wrote {w0 W V : World} {ok : Nat → Prop} {g r c : Nat} {L bs : List Int} {x : Int} (hg : w0.heap.size ≤ g)
    (hb : W.heap[g]? = some (.cells #[.slice (some ⟨r, 0, none⟩) (grown L bs).length c, .int .i64 (L.length : Int), .bool true] 71 (0, 0)))
    (hR : Kd.R (Kd.int .u8) 5 W w0.heap.size ok (.slice (some ⟨r, 0, none⟩) (grown L bs).length c) (grown L bs)) (hB : Below w0.heap.size w0 W) (hw : Packs (L ++ [x]) (Pp.wrote L bs x))
    (hx : x = 0 ∨ x = 1) (hne : g ≠ r)
    (hV : ((W.setCell ⟨r, L.length / 8, none⟩ (.int .u8 (Go.bits .or .u8 (rdOf 0 (grown L bs) ((L.length : Int) / 8)) (x * 2 ^ (7 - L.length % 8) % 256)))).setCell ⟨g, 1, none⟩ (.int .i64 ((L.length : Int) + 1))).drew = V) :
    PenS w0.heap.size ok g (L ++ [x]) V ∧ Below w0.heap.size w0 V ∧ (∀ k, k ≠ g → k ≠ r → V.heap[k]? = W.heap[k]?) ∧ W.heap.size ≤ V.heap.size := by
  have e1 : ((L.length : Int) / 8).toNat = L.length / 8 := by omega
  have e3 : rdOf 0 (grown L bs) ((L.length : Int) / 8) = (grown L bs).getD (L.length / 8) 0 := by unfold rdOf; rw [e1]
  rw [e3, shl_bit x hx _ (by omega)] at hV
  have hput := Kd.R_putg hR ((L.length : Int) / 8) (Go.bits .or .u8 ((grown L bs).getD (L.length / 8) 0) (x * 2 ^ (7 - L.length % 8)))
  rw [e1] at hput
  have hbase := Kd.R_base hR r rfl
  subst hV
  have hb2 := blk_far hb (p := ⟨r, L.length / 8, none⟩) (by simpa using hne) (.int .u8 (Go.bits .or .u8 ((grown L bs).getD (L.length / 8) 0) (x * 2 ^ (7 - L.length % 8))))
  refine ⟨⟨Pp.wrote L bs x, .slice (some ⟨r, 0, none⟩) (grown L bs).length c, ?_, ?_, hw⟩, ?_, fun k h1 h2 => ?_, ?_⟩
  · have := blk_put hb2 1 (.int .i64 ((L.length : Int) + 1)) rfl
    refine (blk_drew this).trans ?_
    simp
  · exact Kd.R_drew (Kd.R_set hput.1 hb2 (by decide) 1 (.int .i64 ((L.length : Int) + 1)))
  · exact below_drew (Below.setCell (p := ⟨g, 1, none⟩) (hB.setCell (p := ⟨r, L.length / 8, none⟩) hbase _) hg _)
  · exact (Below.heap_setCell _ _ _ k h1).trans (Below.heap_setCell _ _ _ k h2)
  · show _ ≤ (World.setCell _ _ _).heap.size
    simp [World.size_setCell]

set_option maxHeartbeats 8000000 in
set_option maxRecDepth 100000 in
theorem write_calls (w0 W : World) (ok : Nat → Prop) (g : Nat) (L : List Int) (x : Int) (hB : Below w0.heap.size w0 W) (hg : w0.heap.size ≤ g) (hP : PenS w0.heap.size ok g L W) (hx : x = 0 ∨ x = 1) (hl : L.length < 16777216) :
    Calls Try.prog 87 #[.pointer (some ⟨g, 0, none⟩), .int .i64 x] W fun e W' => e = .returned (.tuple #[]) ∧ PenS w0.heap.size (fun k => ok k ∨ W.heap.size ≤ k) g (L ++ [x]) W' ∧ Below w0.heap.size w0 W' ∧ Kept W W' (fun k => k = g ∨ ok k) := by
  obtain ⟨bs, v, hb, hR, hp⟩ := hP
  have hn := hp.len
  have hw := hp.wrote x hx hl
  have hw1 : IntKind.i64.wrap ((L.length : Int) + 1) = (L.length : Int) + 1 := by rw [IntKind.wrap_i64]; omega
  have hw7 : IntKind.i64.wrap (7 - (L.length : Int) % 8) = 7 - (L.length : Int) % 8 := by rw [IntKind.wrap_i64]; omega
  have hm8 : Int.tmod (L.length : Int) 8 = (L.length : Int) % 8 := Int.tmod_eq_emod_of_nonneg (by omega)
  have hd8 : Int.tdiv (L.length : Int) 8 = (L.length : Int) / 8 := Int.tdiv_eq_ediv_of_nonneg (by omega)
  have hwq : IntKind.i64.wrap ((L.length : Int) / 8) = (L.length : Int) / 8 := by rw [IntKind.wrap_i64]; omega
  have Hn := Aside0.mk hn
  clear hn
  obtain ⟨A, c, rfl⟩ := Kd.R_slice hR
  have hp0 : W.cell? ⟨g, 0, none⟩ = some (.slice A bs.length c) := (blk_cell hb 0).trans rfl
  have hp1 : W.cell? ⟨g, 1, none⟩ = some (.int .i64 (L.length : Int)) := (blk_cell hb 1).trans rfl
  have hf0 := blk_frozen hb 0
  have hf1 := blk_frozen hb 1
  by_cases h8 : (L.length : Int) % 8 = 0
  · have hb8 : ((L.length : Int) % 8 == 0) = true := beq_iff_eq.2 h8
    have hne0 := Kd.R_ne hR hb (by decide)
    have HR := Aside0.mk hR
    have HB := Aside0.mk hB
    have Hb := Aside0.mk hb
    have Hw := Aside0.mk hw
    have hlen : bs.length ≤ 16777216 := by have := Hn.out; omega
    clear hR hB hb hw hp
    go_enter Try.func87, Try.ntmps87
    go_wp2_with ((with_reducible refine gate_builtin (b := .append) (xs := #[.tmp 14, .tmp 15]) rfl ?_); at_builtin; refine Kd.R_append (Kd.int .u8) (w0 := w0) w0.heap.size rfl (.tmp 14) (.tmp 15) 22 5 (.int .u8 0) 1 rfl Try.underlying22 info5 rfl (by decide) (by omega) (.slice A bs.length c) bs 0 [.int .u8 0] (fun k => ok k ∨ W.heap.size ≤ k) (fun _ => False) rfl rfl (show Kd.M (Kd.int .u8) _ _ _ 0 [.int .u8 0] from rfl) (fun _ hk => hk.elim) (fun _ hk => .inr hk) (Kd.R_mono HR.out (fun _ hk => .inl hk)) HB.out HB.out.size (by omega) ?_; intro v1 w1 hR1 hB1 hg1 hat1; obtain ⟨A1, c1, rfl⟩ := Kd.R_slice hR1; have hb1 := blk_grown Hb.out hg1 hne0; have hp10 : w1.cell? ⟨g, 0, none⟩ = some (.slice A bs.length c) := (blk_cell hb1 0).trans rfl; have hf10 := blk_frozen hb1 0; have HR1 := Aside0.mk hR1; have HB1 := Aside0.mk hB1; have Hb1 := Aside0.mk hb1; have Hg1 := Aside0.mk hg1; clear hR1 hB1 hb1 hg1 hat1)
    have hgr : grown L bs = bs ++ [0] := by unfold grown; rw [if_pos (by omega)]
    have Hgr := Aside0.mk hgr
    have hgl : (bs ++ [0]).length = bs.length + 1 := by simp
    obtain ⟨W2, hW2⟩ : ∃ W2, w1.setCell ⟨g, 0, none⟩ (.slice A1 (bs.length + 1) c1) = W2 := ⟨_, rfl⟩
    have hR2 : Kd.R (Kd.int .u8) 5 W2 w0.heap.size (fun k => ok k ∨ W.heap.size ≤ k) (.slice A1 (bs ++ [0]).length c1) (bs ++ [0]) := by rw [← hW2]; exact Kd.R_set HR1.out Hb1.out (by decide) 0 _
    have hb2 : W2.heap[g]? = some (.cells #[.slice A1 (bs ++ [0]).length c1, .int .i64 (L.length : Int), .bool true] 71 (0, 0)) := by rw [← hW2, hgl]; exact blk_put Hb1.out 0 _ rfl
    have hB2 : Below w0.heap.size w0 W2 := by rw [← hW2]; exact Below.setCell (p := ⟨g, 0, none⟩) HB1.out hg _
    have hK2 : Kept W W2 (fun k => k = g ∨ ok k) := by
      refine ⟨by rw [← hW2, World.size_setCell]; exact Hg1.out.size, fun k hk hn => ?_⟩
      rw [← hW2]
      refine (Below.heap_setCell w1 _ _ k (fun h => hn (.inl h))).trans (Hg1.out.block k hk (fun h => hn (.inr (HR.out.1 k h.symm))))
    rw [hW2]
    clear hW2 HR1 Hb1 HB1 Hg1 hne0 hp0 hp1 hf0 hf1 Hb HB
    have hi0 : (0 : Int) ≤ (L.length : Int) / 8 := by omega
    have hi1 : (L.length : Int) / 8 < (((bs.length + 1 : Nat)) : Int) := by have := Hn.out; omega
    obtain ⟨r, c', e', _, _, _, HGr⟩ := Kd.R_form hR2 (by omega)
    simp only [Value.slice.injEq, true_and] at e'
    obtain ⟨rfl, rfl⟩ := e'
    rw [hgl] at hR2 hb2
    obtain ⟨hce, hfe⟩ := Kd.R_celln (0 : Int) hR2 ((L.length : Int) / 8) hi0 hi1
    have hne : g ≠ r := blk_ne hb2 HGr (by decide)
    have hne' : r ≠ g := fun h => hne h.symm
    have hp20 : W2.cell? ⟨g, 0, none⟩ = some (.slice (some ⟨r, 0, none⟩) (bs.length + 1) c1) := (blk_cell hb2 0).trans rfl
    have hp21 : W2.cell? ⟨g, 1, none⟩ = some (.int .i64 (L.length : Int)) := (blk_cell hb2 1).trans rfl
    have hf21 := blk_frozen hb2 1
    have HR2 := Aside0.mk hR2
    have HB2 := Aside0.mk hB2
    have Hb2 := Aside0.mk hb2
    have HK2 := Aside0.mk hK2
    obtain ⟨u0, hu0⟩ : ∃ u, rdOf 0 (bs ++ [0]) ((L.length : Int) / 8) = u := ⟨_, rfl⟩
    rw [hu0] at hce
    have Hu0 := Aside0.mk hu0
    have hi1' : (L.length : Int) / 8 < (bs.length : Int) + 1 := by omega
    clear hR2 hB2 hb2 HGr hK2 hu0 h8 hb8 hlen hp10 hf10 hgl hgr
    go_region_with (fail)
    all_goals go_wp2
    all_goals
      go_end0
      have hgr := Hgr.out
      have hgl : (bs ++ [0]).length = bs.length + 1 := by simp
      have hf := PenS.wrote (L := L) (bs := bs) (x := x) hg (by rw [hgr, hgl]; exact Hb2.out) (by rw [hgr, hgl]; exact HR2.out) HB2.out Hw.out hx hne rfl
      rw [hgr, Hu0.out] at hf
      obtain ⟨⟨bs', v', k1, k2, k3⟩, k4, k5, k6⟩ := hf
      refine ⟨rfl, ⟨bs', v', k1, k2, k3⟩, k4, Nat.le_trans HK2.out.1 k6, fun k hk hk2 => ?_⟩
      have hkg : k ≠ g := fun h => hk2 (.inl h)
      have hkr : k ≠ r := by
        rintro rfl
        rcases HR2.out.1 k rfl with h | h
        · exact hk2 (.inr h)
        · omega
      exact (k5 k hkg hkr).trans (HK2.out.2 k hk hk2)
  · have hb8 : ((L.length : Int) % 8 == 0) = false := beq_eq_false_iff_ne.2 h8
    have hlt : L.length / 8 < bs.length := by have := Hn.out; omega
    have hi0 : (0 : Int) ≤ (L.length : Int) / 8 := by omega
    have hi1 : (L.length : Int) / 8 < (bs.length : Int) := by omega
    obtain ⟨r, c', e', _, _, _, HGr⟩ := Kd.R_form hR (by omega)
    simp only [Value.slice.injEq, true_and] at e'
    obtain ⟨rfl, rfl⟩ := e'
    obtain ⟨hce, hfe⟩ := Kd.R_celln (0 : Int) hR ((L.length : Int) / 8) hi0 hi1
    have hne : g ≠ r := blk_ne hb HGr (by decide)
    have hne' : r ≠ g := fun h => hne h.symm
    have HR := Aside0.mk hR
    have HB := Aside0.mk hB
    have Hb := Aside0.mk hb
    have Hw := Aside0.mk hw
    clear hR hB hb hw hp HGr
    go_enter Try.func87, Try.ntmps87
    go_wp2_with (fail)
    go_region_with (fail)
    all_goals go_wp2
    all_goals
      go_end0
      have hgr : grown L bs = bs := by unfold grown; rw [if_neg (by omega)]
      have hf := PenS.wrote (L := L) (bs := bs) (x := x) hg (by rw [hgr]; exact Hb.out) (by rw [hgr]; exact HR.out) HB.out Hw.out hx hne rfl
      rw [hgr] at hf
      obtain ⟨⟨bs', v', k1, k2, k3⟩, k4, k5, k6⟩ := hf
      refine ⟨rfl, ⟨bs', v', k1, Kd.R_mono k2 (fun _ h => .inl h), k3⟩, k4, k6, fun k hk hk2 => k5 k (fun h => hk2 (.inl h)) (fun h => hk2 (.inr (by rw [h]; exact HR.out.1 r rfl)))⟩
end Go.Proofs.Ytjbpcffmeaadeaa.Pp
