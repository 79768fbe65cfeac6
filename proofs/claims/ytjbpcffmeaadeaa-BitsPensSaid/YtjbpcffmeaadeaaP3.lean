import Derived.Test.YtjbpcffmeaadeaaP2
/- Contracts of a pen's none, full and Len, of NewPen, and what a pen's state outlives. -/
namespace Go.Proofs.Ytjbpcffmeaadeaa.Pp
open Go.RowKit Go.Proofs.Ytjbpcffmeaadeaa.Pr Go.Proofs.YtjbpcffmeaadeaaW.PrintWords Go.Proofs.YtjbpcffmeaadeaaW.PrintLast Go.Proofs.YtjbpcffmeaadeaaW.PrintMore

theorem PenS.below {base : Nat} {ok : Nat → Prop} {g : Nat} {L : List Int} {W W' : World} (h : PenS base ok g L W) (hb : Below W.heap.size W W') : PenS base ok g L W' := by
  obtain ⟨bs, v, h1, h2, h3⟩ := h
  exact ⟨bs, v, blk_below h1 hb, Kd.R_below h2 hb, h3⟩
theorem PenS.mono {base : Nat} {ok ok' : Nat → Prop} {g : Nat} {L : List Int} {W : World} (h : PenS base ok g L W) (hk : ∀ k, ok k → ok' k) : PenS base ok' g L W := by
  obtain ⟨bs, v, h1, h2, h3⟩ := h
  exact ⟨bs, v, h1, Kd.R_mono h2 hk, h3⟩
theorem PenS.bin {base : Nat} {ok : Nat → Prop} {g : Nat} {L : List Int} {W : World} (h : PenS base ok g L W) : ∀ x ∈ L, x = 0 ∨ x = 1 := by
  obtain ⟨bs, v, _, _, h3⟩ := h
  exact h3.bin

theorem none_nil (W : World) : Calls Try.prog 85 #[.pointer none] W fun e W' => e = .returned (.bool true) ∧ W = W' := by
  go_enter Try.func85, Try.ntmps85
  go_wp2
  go_ret
  exact ⟨rfl, rfl⟩
theorem none_zero (W : World) (g : Nat) (hb : W.heap[g]? = some (.cells #[.slice none 0 0, .int .i64 0, .bool false] 71 (0, 0))) : Calls Try.prog 85 #[.pointer (some ⟨g, 0, none⟩)] W fun e W' => e = .returned (.bool true) ∧ W = W' := by
  have hp2 : W.cell? ⟨g, 2, none⟩ = some (.bool false) := (blk_cell hb 2).trans rfl
  clear hb
  go_enter Try.func85, Try.ntmps85
  go_wp2
  go_ret
  exact ⟨rfl, rfl⟩
theorem none_calls {base : Nat} {ok : Nat → Prop} {g : Nat} {L : List Int} {W : World} (h : PenS base ok g L W) : Calls Try.prog 85 #[.pointer (some ⟨g, 0, none⟩)] W fun e W' => e = .returned (.bool false) ∧ W = W' := by
  obtain ⟨bs, v, hb, _, _⟩ := h
  have hp2 : W.cell? ⟨g, 2, none⟩ = some (.bool true) := (blk_cell hb 2).trans rfl
  clear hb
  go_enter Try.func85, Try.ntmps85
  go_wp2
  go_ret
  exact ⟨rfl, rfl⟩
theorem full_calls {base : Nat} {ok : Nat → Prop} {g : Nat} {L : List Int} {W : World} (n : Int) (h : PenS base ok g L W) (hn : 0 ≤ n ∧ n ≤ 1000) (hl : L.length ≤ 16777216) : Calls Try.prog 86 #[.pointer (some ⟨g, 0, none⟩), .int .i64 n] W fun e W' => e = .returned (.bool (decide ((L.length : Int) + n > 16777216))) ∧ W = W' := by
  obtain ⟨bs, v, hb, _, _⟩ := h
  have hp1 : W.cell? ⟨g, 1, none⟩ = some (.int .i64 (L.length : Int)) := (blk_cell hb 1).trans rfl
  have hw : IntKind.i64.wrap ((L.length : Int) + n) = (L.length : Int) + n := by rw [IntKind.wrap_i64]; omega
  clear hb
  go_enter Try.func86, Try.ntmps86
  go_wp2
  go_ret
  exact ⟨rfl, rfl⟩
theorem len_calls {base : Nat} {ok : Nat → Prop} {g : Nat} {L : List Int} {W : World} (h : PenS base ok g L W) : Calls Try.prog 52 #[.pointer (some ⟨g, 0, none⟩)] W fun e W' => e = .returned (.int .i64 (L.length : Int)) ∧ W = W' := by
  have h' := h
  obtain ⟨bs, v, hb, _, _⟩ := h
  have hp1 : W.cell? ⟨g, 1, none⟩ = some (.int .i64 (L.length : Int)) := (blk_cell hb 1).trans rfl
  have H := Aside0.mk h'
  clear hb h'
  go_enter Try.func52, Try.ntmps52
  go_wp2_with (fail)
  refine (none_calls H.out).mono ?_
  rintro e w' ⟨rfl, rfl⟩
  go_wp2
  go_ret
  exact ⟨rfl, rfl⟩
theorem newPen_calls (W : World) : Calls Try.prog 49 #[] W fun e W' => e = .returned (.pointer (some ⟨W.heap.size, 0, none⟩)) ∧ PenS W.heap.size (fun k => W.heap.size ≤ k) W.heap.size [] W' ∧ Below W.heap.size W W' := by
  go_enter Try.func49, Try.ntmps49
  go_wp2
  go_ret
  exact ⟨rfl, ⟨[], .slice none 0 0, blk_new _ _, Kd.R_nil _ _ _ _ _, Packs.nil⟩, below_alloc (Below.refl _ _) _⟩
end Go.Proofs.Ytjbpcffmeaadeaa.Pp
