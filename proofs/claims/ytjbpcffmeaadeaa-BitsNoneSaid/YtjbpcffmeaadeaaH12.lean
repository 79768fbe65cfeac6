import Derived.Test.YtjbpcffmeaadeaaP8
/- The walk of BitsNone, by hand. -/
namespace Go.Proofs.Ytjbpcffmeaadeaa.Pp
open Go.RowKit Go.Proofs.Ytjbpcffmeaadeaa.Pr Go.Proofs.YtjbpcffmeaadeaaW.PrintWords Go.Proofs.YtjbpcffmeaadeaaW.PrintLast Go.Proofs.YtjbpcffmeaadeaaW.PrintMore
set_option linter.unusedVariables false

theorem act_C (W : World) (X : Nat) (x : S67) (hb : W.heap[X]? = some (.cells #[.bool x.f0, .int .i64 x.f1, .int .i64 x.f2, .string x.f3] 67 (0, 0))) : Kd.C k67 W (some ⟨X, 0, none⟩) 1 [x] := by
  have hO : Kd.R k67 67 W 0 (fun _ => True) (.slice (some ⟨X, 0, none⟩) 1 1) [x] :=
    ⟨fun _ _ => trivial, [.bool x.f0, .int .i64 x.f1, .int .i64 x.f2, .string x.f3], ⟨rfl, .inr ⟨X, 1, _, rfl, Nat.zero_le _, hb, Nat.le_refl _, by decide, rfl, rfl⟩⟩, Reps.c4 (k67_mkM W 0 _ x) (Reps.none _ _)⟩
  exact (Kd.R_reads' hO).2.2

/-- What BitsNone holds while it goes through its pens. -/
structure NB (w : World) (X p A : Nat) (c : Bool) (n m : Int) (s : ByteArray) (V : World) : Prop where
  below : Below w.heap.size w V
  box : V.heap[X]? = some (.cells #[.bool c, .int .i64 n, .int .i64 m, .string s] 67 (0, 0))
  pen : V.heap[p]? = some (.cells #[.slice none 0 0, .int .i64 0, .bool false] 71 (0, 0))
  row : V.heap[A]? = some (.cells #[.pointer none, .pointer (some ⟨p, 0, none⟩)] 56 (0, 0))
theorem NB.next {w : World} {X p A : Nat} {c : Bool} {n m : Int} {s : ByteArray} {V V' : World} (h : NB w X p A c n m s V) (hb : Below V.heap.size V V') : NB w X p A c n m s V' :=
  ⟨below_step h.below hb, blk_below h.box hb, blk_below h.pen hb, blk_below h.row hb⟩
theorem NB.drewN {w : World} {X p A : Nat} {c : Bool} {n m : Int} {s : ByteArray} {V : World} (h : NB w X p A c n m s V) (k : Nat) : NB w X p A c n m s (V.drewN k) := h.next (pw_below_drewN (Below.refl _ _) k)
theorem NB.drew {w : World} {X p A : Nat} {c : Bool} {n m : Int} {s : ByteArray} {V : World} (h : NB w X p A c n m s V) : NB w X p A c n m s V.drew := h.next (below_drew (Below.refl _ _))

set_option maxHeartbeats 8000000 in
set_option maxRecDepth 100000 in
theorem none_walk (c : Bool) (n m : Int) (s : ByteArray) (w : World) (r : Bool) (hl : praxinoscopelaw01_Long.f 200 [⟨c, n, m, s⟩] = some r) :
    Calls Try.prog 12 #[.agg #[.bool c, .int .i64 n, .int .i64 m, .string s]] w fun e w' => e = .returned (.bool true) ∧ Below w.heap.size w w' := by
  have Hl := Aside0.mk hl
  clear hl
  go_enter Try.func12, Try.ntmps12
  go_wp2_with (fail)
  obtain ⟨W2, hW2⟩ : ∃ W2, ((w.alloc (Obj.cells #[Value.bool c, Value.int IntKind.i64 n, Value.int IntKind.i64 m, Value.string s] 67)).alloc
      (Obj.cells #[Value.bool c, Value.int IntKind.i64 n, Value.int IntKind.i64 m, Value.string s] 67)) = W2 := ⟨_, rfl⟩
  have hx : W2.heap[w.heap.size]? = some (.cells #[.bool c, .int .i64 n, .int .i64 m, .string s] 67 (0, 0)) := by rw [← hW2]; exact blk_alloc (blk_new _ _) _
  have hy : W2.heap[w.heap.size + 1]? = some (.cells #[.bool c, .int .i64 n, .int .i64 m, .string s] 67 (0, 0)) := by rw [← hW2]; have := blk_new (w.alloc (Obj.cells #[Value.bool c, Value.int IntKind.i64 n, Value.int IntKind.i64 m, Value.string s] 67)) (Obj.cells #[Value.bool c, Value.int IntKind.i64 n, Value.int IntKind.i64 m, Value.string s] 67); simpa using this
  have HB := Aside0.mk (show Below w.heap.size w W2 by rw [← hW2]; exact below_alloc (below_alloc (Below.refl _ _) _) _)
  rw [hW2]
  have Hx := Aside0.mk hx
  have Hy := Aside0.mk hy
  clear hW2 hx hy
  refine (praxinoscopelaw01_Long.calls 200 _ _ [⟨c, n, m, s⟩] r _ (act_C _ _ ⟨c, n, m, s⟩ Hy.out) (Nat.le_refl _) Hl.out).mono ?_
  rintro e W3 ⟨rfl, hd⟩
  have Hx3 := Aside0.mk (blk_below Hx.out (drawn_below hd))
  have HB3 := Aside0.mk (below_step HB.out (drawn_below hd))
  clear hd Hx Hy HB
  cases r with
  | true =>
    go_wp2_with (fail)
    refine (praxinoscopelaw01_awake.calls 60 true _ (by decide +kernel)).mono ?_
    rintro e w_ ⟨rfl, hd⟩
    have HB4 := Aside0.mk (below_step HB3.out hd)
    clear hd
    go_wp2
    go_ret
    exact ⟨rfl, HB4.out⟩
  | false =>
    have hx3 := Hx3.out
    have hc1 : W3.cell? ⟨w.heap.size, 1, none⟩ = some (.int .i64 n) := (blk_cell hx3 1).trans rfl
    have hc2 : W3.cell? ⟨w.heap.size, 2, none⟩ = some (.int .i64 m) := (blk_cell hx3 2).trans rfl
    have hc3 : W3.cell? ⟨w.heap.size, 3, none⟩ = some (.string s) := (blk_cell hx3 3).trans rfl
    clear hx3
    go_wp2
    have HN := Aside0.mk (show NB w w.heap.size W3.heap.size (W3.heap.size + 1) c n m s _ from ⟨below_alloc (below_alloc HB3.out _) _, blk_alloc (blk_alloc Hx3.out _) _, blk_alloc (blk_new _ _) _, by simpa using blk_new (W3.alloc _) (Obj.cells #[Value.pointer none, Value.pointer (some ⟨W3.heap.size, 0, none⟩)] 56)⟩)
    go_loopw [4] (fun v4 wr => ∃ i : Nat, v4 = .int .i64 (i : Int) ∧ i ≤ 2 ∧ Aside0 (NB w w.heap.size W3.heap.size (W3.heap.size + 1) c n m s wr)) (fun v4 _ => 2 - (intOf v4).toNat)
    case atStart => exact ⟨0, rfl, by omega, HN⟩
    case round =>
      obtain ⟨i, rfl, hi, HR⟩ := hrel
      clear HN Hx3 HB3 hc1 hc2 hc3
      have hc1 : wr.cell? ⟨w.heap.size, 1, none⟩ = some (.int .i64 n) := (blk_cell HR.out.box 1).trans rfl
      have hc2 : wr.cell? ⟨w.heap.size, 2, none⟩ = some (.int .i64 m) := (blk_cell HR.out.box 2).trans rfl
      have hc3 : wr.cell? ⟨w.heap.size, 3, none⟩ = some (.string s) := (blk_cell HR.out.box 3).trans rfl
      have hd0 : wr.cell? ⟨W3.heap.size + 1, 0, none⟩ = some (.pointer none) := (blk_cell HR.out.row 0).trans rfl
      have hd1 : wr.cell? ⟨W3.heap.size + 1, 1, none⟩ = some (.pointer (some ⟨W3.heap.size, 0, none⟩)) := (blk_cell HR.out.row 1).trans rfl
      match i, hi with
      | 0, _ =>
        go_wp2_with (fail)
        refine (put_nil n m _).mono ?_
        rintro e w' ⟨rfl, rfl⟩
        go_wp2_with (fail)
        refine (code_nil s _).mono ?_
        rintro e w' ⟨rfl, rfl⟩
        go_wp2_with (fail)
        refine (len_nil _).mono ?_
        rintro e w' ⟨rfl, rfl⟩
        go_wp2_with (fail)
        refine (bytes_nil _).mono ?_
        rintro e w' ⟨rfl, rfl⟩
        go_wp2
        go_roundw
        case rel => exact ⟨1, rfl, by omega, HR⟩
        case measure => simp [intOf]
      | 1, _ =>
        go_wp2_with (fail)
        refine (put_zero n m _ _ HR.out.pen).mono ?_
        rintro e w' ⟨rfl, rfl⟩
        go_wp2_with (fail)
        refine (code_zero s _ _ HR.out.pen).mono ?_
        rintro e w' ⟨rfl, rfl⟩
        go_wp2_with (fail)
        refine (len_zero _ _ HR.out.pen).mono ?_
        rintro e w' ⟨rfl, rfl⟩
        go_wp2_with (fail)
        refine (bytes_zero _ _ HR.out.pen).mono ?_
        rintro e w' ⟨rfl, rfl⟩
        go_wp2
        go_roundw
        case rel => exact ⟨2, rfl, by omega, HR⟩
        case measure => simp [intOf]
      | 2, _ =>
        go_wp2_with (fail)
        refine (praxinoscopelaw01_awake.calls 60 true _ (by decide +kernel)).mono ?_
        rintro e w_ ⟨rfl, hd⟩
        have HB4 := Aside0.mk (below_step HR.out.below hd)
        clear hd
        go_wp2
        go_ret
        exact ⟨rfl, HB4.out⟩
end Go.Proofs.Ytjbpcffmeaadeaa.Pp
