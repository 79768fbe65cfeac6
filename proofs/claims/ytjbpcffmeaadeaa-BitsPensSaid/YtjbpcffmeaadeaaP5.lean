import Derived.Test.YtjbpcffmeaadeaaP4
/- The contract of a pen's Bytes. -/
namespace Go.Proofs.Ytjbpcffmeaadeaa.Pp
open Go.RowKit Go.Proofs.Ytjbpcffmeaadeaa.Pr Go.Proofs.YtjbpcffmeaadeaaW.PrintWords Go.Proofs.YtjbpcffmeaadeaaW.PrintLast Go.Proofs.YtjbpcffmeaadeaaW.PrintMore

set_option maxHeartbeats 4000000 in
set_option maxRecDepth 100000 in
theorem clone_calls (g c : Nat) (bs : List Int) (W : World) (hC : Kd.C (Kd.int .u8) W (some ⟨g, 0, none⟩) bs.length bs) (_hc : bs.length ≤ c) (hl : bs.length ≤ 1000000000) :
    Calls Try.prog 88 #[.slice (some ⟨g, 0, none⟩) bs.length c] W fun e W' => ∃ v, e = .returned v ∧ Kd.R (Kd.int .u8) 5 W' W.heap.size (fun _ => True) v bs ∧ Below W.heap.size W W' := by
  have HC := Aside0.mk hC
  have hO : Kd.R (Kd.int .u8) 5 (W.alloc (.cells #[] 5)) W.heap.size (fun _ => True) (.slice (some ⟨W.heap.size, 0, none⟩) 0 0) [] :=
    ⟨fun _ _ => trivial, [], ⟨rfl, .inr ⟨W.heap.size, 0, #[], rfl, Nat.le_refl _, blk_new W _, Nat.le_refl _, by decide, rfl, rfl⟩⟩, Reps.none _ _⟩
  have HO := Aside0.mk hO
  have hl2 : bs.length + 0 ≤ 1000000000 := hl
  have hnil : ∀ w : World, (binOp .eql 22 (.slice (some ⟨g, 0, none⟩) bs.length c) (.slice none 0 0)).run Try.prog w = .ok (.bool false) w := fun _ => rfl
  clear hC hO
  go_enter Try.func88, Try.ntmps88
  go_wp2_with ((with_reducible refine gate_builtin (b := .append) (xs := #[.tmp 5, .tmp 6]) rfl ?_); at_builtin; refine Kd.R_append_rows (Kd.int .u8) (w0 := W) W.heap.size rfl (.tmp 5) (.tmp 6) 22 5 (.int .u8 0) 1 rfl Try.underlying22 info5 rfl (by decide) (by omega) (.slice (some ⟨W.heap.size, 0, none⟩) 0 0) [] bs _ _ _ (fun _ => True) (fun _ => False) rfl rfl HO.out (Kd.C_alloc HC.out _) (fun _ _ h => h) (fun _ h => h.elim) (fun _ _ => trivial) (below_alloc (Below.refl _ _) _) (by simp) (by simp; omega) ?_; intro v1 w1 ho hb hg hat; have HR1 := Aside0.mk ho; have HB1 := Aside0.mk hb; clear ho hb hg hat)
  go_ret
  exact ⟨_, rfl, by simpa using HR1.out, HB1.out⟩
set_option maxRecDepth 100000 in
theorem clone_nil (W : World) : Calls Try.prog 88 #[.slice none 0 0] W fun e W' => e = .returned (.slice none 0 0) ∧ W = W' := by
  have hnil : ∀ w : World, (binOp .eql 22 (.slice none 0 0) (.slice none 0 0)).run Try.prog w = .ok (.bool true) w := fun _ => rfl
  go_enter Try.func88, Try.ntmps88
  go_wp2
  go_ret
  exact ⟨rfl, rfl⟩
theorem bytes_calls {base : Nat} {ok : Nat → Prop} {g : Nat} {L : List Int} {W : World} (h : PenS base ok g L W) (hl : L.length ≤ 16777216) :
    Calls Try.prog 53 #[.pointer (some ⟨g, 0, none⟩)] W fun e W' => ∃ v bs, e = .returned v ∧ Kd.R (Kd.int .u8) 5 W' W.heap.size (fun _ => True) v bs ∧ Packs L bs ∧ Below W.heap.size W W' := by
  have h' := h
  obtain ⟨bs, v, hb, hR, hp⟩ := h
  have hp0 : W.cell? ⟨g, 0, none⟩ = some v := (blk_cell hb 0).trans rfl
  have hlen : bs.length ≤ 1000000000 := by have := hp.len; omega
  have H := Aside0.mk h'
  have Hp := Aside0.mk hp
  have HR := Aside0.mk hR
  obtain ⟨A, c, rfl⟩ := Kd.R_slice hR
  have hcap := (Kd.R_reads' hR).2.1
  have hvf : (Value.slice A bs.length c = .slice none 0 0 ∧ bs.length = 0) ∨ ∃ r cap, Value.slice A bs.length c = .slice (some ⟨r, 0, none⟩) bs.length cap := by
    obtain ⟨_, inner, ⟨_, hown⟩, _⟩ := hR
    rcases hown with h | ⟨r, cap, cur, h, _⟩
    · exact .inl h
    · exact .inr ⟨r, cap, h⟩
  clear hb h' hR hp
  rcases hvf with ⟨hv, hn0⟩ | ⟨r, cap, hv⟩
  · have hbs : bs = [] := List.length_eq_zero_iff.1 hn0
    subst hbs
    simp only [Value.slice.injEq, List.length_nil, true_and] at hv
    obtain ⟨rfl, rfl⟩ := hv
    go_enter Try.func53, Try.ntmps53
    go_wp2_with (fail)
    refine (none_calls H.out).mono ?_
    rintro e w' ⟨rfl, rfl⟩
    go_wp2_with (fail)
    refine (clone_nil _).mono ?_
    rintro e w' ⟨rfl, rfl⟩
    go_wp2
    go_ret
    exact ⟨_, [], rfl, Kd.R_nil _ _ _ _ _, Hp.out, Below.refl _ _⟩
  · simp only [Value.slice.injEq, true_and] at hv
    obtain ⟨rfl, rfl⟩ := hv
    go_enter Try.func53, Try.ntmps53
    go_wp2_with (fail)
    refine (none_calls H.out).mono ?_
    rintro e w' ⟨rfl, rfl⟩
    go_wp2_with (fail)
    refine (clone_calls r c bs _ (Kd.R_reads' HR.out).2.2 hcap hlen).mono ?_
    rintro e w' ⟨v, rfl, h1, h2⟩
    have H1 := Aside0.mk h1
    have H2 := Aside0.mk h2
    clear h1 h2
    go_wp2
    go_ret
    exact ⟨_, bs, rfl, H1.out, Hp.out, H2.out⟩
end Go.Proofs.Ytjbpcffmeaadeaa.Pp
