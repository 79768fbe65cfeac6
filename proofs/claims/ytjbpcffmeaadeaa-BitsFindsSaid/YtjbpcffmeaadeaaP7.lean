import Derived.Test.YtjbpcffmeaadeaaP6
/- A pen that a law has made, and what its calls leave: the contracts of P3 to P6, told for the laws. -/
namespace Go.Proofs.Ytjbpcffmeaadeaa.Pp
open Go.RowKit Go.Proofs.Ytjbpcffmeaadeaa.Pr Go.Proofs.YtjbpcffmeaadeaaW.PrintWords Go.Proofs.YtjbpcffmeaadeaaW.PrintLast Go.Proofs.YtjbpcffmeaadeaaW.PrintMore

/-- A block of one of two types. -/
def Typ (a b : Nat) (W : World) (k : Nat) : Prop := ∃ cells, W.heap[k]? = some (.cells cells a (0, 0)) ∨ W.heap[k]? = some (.cells cells b (0, 0))
/-- Only blocks of two types have turned. -/
def Same (a b : Nat) (W W' : World) : Prop := Kept W W' (Typ a b W)
theorem Same.refl (a b : Nat) (W : World) : Same a b W W := Kept.refl _ _
theorem Same.of_below {a b : Nat} {W W' : World} (h : Below W.heap.size W W') : Same a b W W' := Kept.of_below h _
theorem Same.trans {a b : Nat} {W V U : World} (h : Same a b W V) (k : Same a b V U) : Same a b W U := by
  refine ⟨Nat.le_trans h.1 k.1, fun i hi hn => ?_⟩
  have e := h.2 i hi hn
  refine (k.2 i (Nat.lt_of_lt_of_le hi h.1) ?_).trans e
  rintro ⟨cells, hc⟩
  rw [e] at hc
  exact hn ⟨cells, hc⟩
/-- A row of other types stays. -/
theorem Same.row {a b : Nat} {W W' : World} {α : Type} {d : Kd α} {e base : Nat} {ok : Nat → Prop} {v : Value} {xs : List α} (h : Same a b W W') (hR : d.R e W base ok v xs) (ht : ∀ q, q ∈ e :: d.E → q ≠ a ∧ q ≠ b) : d.R e W' base ok v xs := by
  refine Kd.R_mono (Kd.R_kept (Kd.R_bound hR) h (fun k hk => ?_)) (fun k hk => hk.1)
  obtain ⟨_, _, _, q, hq, cells, hc⟩ := hk
  rintro ⟨cells', h' | h'⟩
  · rw [hc] at h'; cases h'; exact (ht _ hq).1 rfl
  · rw [hc] at h'; cases h'; exact (ht _ hq).2 rfl
/-- A block of another type stays. -/
theorem Same.blk {a b : Nat} {W W' : World} {g t : Nat} {cs : Array Value} (h : Same a b W W') (hb : W.heap[g]? = some (.cells cs t (0, 0))) (ha : t ≠ a) (hb' : t ≠ b) : W'.heap[g]? = some (.cells cs t (0, 0)) := by
  refine (h.2 g (blk_lt hb) ?_).trans hb
  rintro ⟨cells, h' | h'⟩
  · rw [hb] at h'; cases h'; exact ha rfl
  · rw [hb] at h'; cases h'; exact hb' rfl

theorem PenS.typed {base : Nat} {ok : Nat → Prop} {g : Nat} {L : List Int} {W : World} (h : PenS base ok g L W) : PenS base (Typ 5 71 W) g L W := by
  obtain ⟨bs, v, h1, h2, h3⟩ := h
  refine ⟨bs, v, h1, Kd.R_mono (Kd.R_bound h2) (fun k hk => ?_), h3⟩
  obtain ⟨_, _, _, q, hq, cells, hc⟩ := hk
  simp only [List.mem_cons] at hq
  rcases hq with rfl | hq
  · exact ⟨cells, .inl hc⟩
  · exact absurd hq (by show ¬ q ∈ ([] : List Nat); simp)
theorem PenS.lower {base base' : Nat} {ok : Nat → Prop} {g : Nat} {L : List Int} {W : World} (h : PenS base ok g L W) (hb : base' ≤ base) : PenS base' ok g L W := by
  obtain ⟨bs, v, h1, h2, h3⟩ := h
  exact ⟨bs, v, h1, Kd.R_lower h2 hb, h3⟩

/-- A pen of a law: it has the bits L; what the law came with stays. -/
structure Pn (w : World) (g : Nat) (L : List Int) (W : World) : Prop where
  pen : PenS w.heap.size (fun _ => True) g L W
  below : Below w.heap.size w W
  ge : w.heap.size ≤ g
theorem Pn.next {w W W' : World} {g : Nat} {L : List Int} (h : Pn w g L W) (hb : Below W.heap.size W W') : Pn w g L W' := ⟨h.pen.below hb, below_step h.below hb, h.ge⟩
theorem Pn.lt {w W : World} {g : Nat} {L : List Int} (h : Pn w g L W) : g < W.heap.size := h.pen.lt
theorem Pn.bin {w W : World} {g : Nat} {L : List Int} (h : Pn w g L W) : ∀ x ∈ L, x = 0 ∨ x = 1 := h.pen.bin
theorem Pn.drew {w W : World} {g : Nat} {L : List Int} (h : Pn w g L W) (m : Nat) : Pn w g L (W.drewN m) := h.next (pw_below_drewN (Below.refl _ _) m)
theorem Pn.of_K {w W V : World} {g : Nat} {L : List Int} (hg : w.heap.size ≤ g) (hP : ∃ L0, PenS w.heap.size (fun _ => True) g L0 W) (h : PenK w W (Typ 5 71 W) g L V) : Pn w g L V ∧ Same 5 71 W V := by
  refine ⟨⟨h.pen.mono (fun _ _ => trivial), h.below, hg⟩, h.kept.mono (fun k hk => ?_)⟩
  rcases hk with rfl | hk
  · obtain ⟨_, _, _, hb, _⟩ := hP
    exact ⟨_, .inr hb⟩
  · exact hk
/-- Nothing that a pen owns turns where only other types do. -/
theorem Pn.same {a b : Nat} {w W W' : World} {g : Nat} {L : List Int} (h : Pn w g L W) (hs : Same a b W W') (hb : Below w.heap.size w W') (h1 : 5 ≠ a ∧ 5 ≠ b) (h2 : 71 ≠ a ∧ 71 ≠ b) : Pn w g L W' := by
  obtain ⟨bs, v, p1, p2, p3⟩ := h.pen
  refine ⟨⟨bs, v, hs.blk p1 h2.1 h2.2, hs.row p2 (fun q hq => ?_), p3⟩, hb, h.ge⟩
  simp only [List.mem_cons] at hq
  rcases hq with rfl | hq
  · exact h1
  · exact absurd hq (by show ¬ q ∈ ([] : List Nat); simp)

theorem pn_new {w W : World} (hB : Below w.heap.size w W) : Calls Try.prog 49 #[] W fun e W' => e = .returned (.pointer (some ⟨W.heap.size, 0, none⟩)) ∧ Pn w W.heap.size [] W' ∧ Below W.heap.size W W' := by
  refine (newPen_calls W).mono ?_
  rintro e W' ⟨h1, h2, h3⟩
  exact ⟨h1, ⟨(h2.lower hB.size).mono (fun _ _ => trivial), below_step hB h3, hB.size⟩, h3⟩
theorem pn_put {w W : World} {g : Nat} {L : List Int} (n : Int) (m : Nat) (h : Pn w g L W) (hm : m ≤ 32) (hn : 0 ≤ n) (hn2 : n / 2 ^ m = 0) (hn3 : n < 9223372036854775808) (hl : L.length + m ≤ 16777216) :
    Calls Try.prog 50 #[.pointer (some ⟨g, 0, none⟩), .int .i64 n, .int .i64 (m : Int)] W fun e W' => e = .returned (.int .i64 0) ∧ Pn w g (L ++ pd n m) W' ∧ Same 5 71 W W' := by
  refine (put_fits w W _ g L n m h.below h.ge h.pen.typed hm hn hn2 hn3 hl).mono ?_
  rintro e W' ⟨h1, h2⟩
  exact ⟨h1, Pn.of_K h.ge ⟨L, h.pen⟩ h2⟩
theorem pn_code {w W : World} {g : Nat} {L : List Int} (s : ByteArray) (h : Pn w g L W) (hs : BinT s) (hn : s.size ≤ 1000) (hl : L.length + s.size ≤ 16777216) :
    Calls Try.prog 51 #[.pointer (some ⟨g, 0, none⟩), .string s] W fun e W' => e = .returned (.int .i64 0) ∧ Pn w g (L ++ cd s s.size) W' ∧ Same 5 71 W W' := by
  refine (code_fits w W _ g L s h.below h.ge h.pen.typed hs hn hl).mono ?_
  rintro e W' ⟨h1, h2⟩
  exact ⟨h1, Pn.of_K h.ge ⟨L, h.pen⟩ h2⟩
theorem pn_range {w W : World} {g : Nat} {L : List Int} (n m : Int) (h : Pn w g L W) (hn3 : -9223372036854775808 ≤ n ∧ n < 9223372036854775808) (hbad : m < 0 ∨ 32 < m ∨ n < 0 ∨ 0 < n / 2 ^ m.toNat) :
    Calls Try.prog 50 #[.pointer (some ⟨g, 0, none⟩), .int .i64 n, .int .i64 m] W fun e W' => e = .returned (.int .i64 3) ∧ Pn w g L W' ∧ Same 5 71 W W' := by
  refine (put_range n m h.pen hn3 hbad).mono ?_
  rintro e W' ⟨h1, rfl⟩
  exact ⟨h1, h, Same.refl _ _ _⟩
theorem pn_form {w W : World} {g : Nat} {L : List Int} (s : ByteArray) (h : Pn w g L W) (hs : ¬ BinT s) (hn : s.size ≤ 1000) :
    Calls Try.prog 51 #[.pointer (some ⟨g, 0, none⟩), .string s] W fun e W' => e = .returned (.int .i64 14) ∧ Pn w g L W' ∧ Same 5 71 W W' := by
  refine (code_form s h.pen hs hn).mono ?_
  rintro e W' ⟨h1, ⟨m, rfl⟩⟩
  exact ⟨h1, h.drew m, Same.of_below (pw_below_drewN (Below.refl _ _) m)⟩
theorem pn_len {w W : World} {g : Nat} {L : List Int} (h : Pn w g L W) : Calls Try.prog 52 #[.pointer (some ⟨g, 0, none⟩)] W fun e W' => e = .returned (.int .i64 (L.length : Int)) ∧ W = W' := len_calls h.pen
theorem pn_bytes {w W : World} {g : Nat} {L : List Int} (h : Pn w g L W) (hl : L.length ≤ 16777216) :
    Calls Try.prog 53 #[.pointer (some ⟨g, 0, none⟩)] W fun e W' => ∃ v bs, e = .returned v ∧ Kd.R (Kd.int .u8) 5 W' W.heap.size (fun _ => True) v bs ∧ Packs L bs ∧ Below W.heap.size W W' ∧ Pn w g L W' := by
  refine (bytes_calls h.pen hl).mono ?_
  rintro e W' ⟨v, bs, h1, h2, h3, h4⟩
  exact ⟨v, bs, h1, h2, h3, h4, h.next h4⟩
theorem drawn_below {w w' : World} (h : Drawn0 w w') : Below w.heap.size w w' := by
  obtain ⟨m, rfl⟩ := h
  exact pw_below_drewN (Below.refl _ _) m
theorem Pn.drew1 {w W : World} {g : Nat} {L : List Int} (h : Pn w g L W) : Pn w g L W.drew := h.next (below_drew (Below.refl _ _))
theorem Pn.alloc {w W : World} {g : Nat} {L : List Int} (h : Pn w g L W) (o : Obj) : Pn w g L (W.alloc o) := h.next (below_alloc (Below.refl _ _) o)
end Go.Proofs.Ytjbpcffmeaadeaa.Pp
