import Derived.Test.YtjbpcffmeaadeaaQ3
import Derived.Test.YtjbpcffmeaadeaaHA
/- What the reference's pen does with an act; both pens side by side. -/
namespace Go.Proofs.Ytjbpcffmeaadeaa.Pp
open Go.RowKit Go.Proofs.Ytjbpcffmeaadeaa.Pr Go.Proofs.YtjbpcffmeaadeaaW.PrintWords Go.Proofs.YtjbpcffmeaadeaaW.PrintLast Go.Proofs.YtjbpcffmeaadeaaW.PrintMore

theorem ref_act_num {w W : World} {g : Nat} {K : List S67} (x : S67) (hf : x.f0 = false) (h : RefS w g (bitsOf K) W) (hn : -9223372036854775808 ≤ x.f1 ∧ x.f1 < 9223372036854775808) (hl : (bitsOf K).length ≤ 1000000) :
    Calls Try.prog 58 #[.pointer (some ⟨g, 0, none⟩), .int .i64 x.f1, .int .i64 x.f2] W fun e W' => ∃ er, e = .returned (.int .i64 er) ∧ Aside0 (er = errA x) ∧ Aside0 (RefS w g (bitsOf (outA K x)) W' ∧ Same 3 76 W W') := by
  cases ho : okA x with
  | true =>
    obtain ⟨h0, h1, h2, h3⟩ := (okA_num hf).1 ho
    obtain ⟨j, hj⟩ := Int.eq_ofNat_of_zero_le h0
    rw [hj]
    rw [hj, show ((j : Int)).toNat = j from by omega] at h3
    refine (ref_put_fits x.f1 j h (by omega) h2 h3 hn.2 hl).mono ?_
    rintro e W' ⟨h5, h6⟩
    exact ⟨0, h5, ⟨(errA_ok ho).symm⟩, ⟨by rw [outA_ok ho, bitsOf_snoc, bitsA_num hf, hj, show ((j : Int)).toNat = j from by omega]; exact h6.out.1, h6.out.2⟩⟩
  | false =>
    have hk : ¬ okN x.f1 x.f2 := fun hk => by rw [(okA_num hf).2 hk] at ho; cases ho
    have hbad : x.f2 < 0 ∨ 32 < x.f2 ∨ x.f1 < 0 ∨ 0 < x.f1 / 2 ^ x.f2.toNat := by
      by_cases h1 : x.f2 < 0
      · exact .inl h1
      by_cases h2 : 32 < x.f2
      · exact .inr (.inl h2)
      by_cases h3 : x.f1 < 0
      · exact .inr (.inr (.inl h3))
      have h4 : 0 ≤ x.f1 / 2 ^ x.f2.toNat := Int.ediv_nonneg (by omega) (Int.le_of_lt (Int.pow_pos (by decide)))
      have h5 : x.f1 / 2 ^ x.f2.toNat ≠ 0 := fun h5 => hk ⟨by omega, by omega, by omega, h5⟩
      exact .inr (.inr (.inr (by omega)))
    refine (ref_put_range g W x.f1 x.f2 hn hbad).mono ?_
    rintro e W' ⟨h5, rfl⟩
    exact ⟨3, h5, ⟨by unfold errA; rw [ho, hf]; rfl⟩, ⟨by rw [outA_no ho]; exact h, Same.refl _ _ _⟩⟩
theorem ref_act_text {w W : World} {g : Nat} {K : List S67} (x : S67) (hf : x.f0 = true) (h : RefS w g (bitsOf K) W) (hn : x.f3.size ≤ 100) (hl : (bitsOf K).length ≤ 1000000) :
    Calls Try.prog 57 #[.pointer (some ⟨g, 0, none⟩), .string x.f3] W fun e W' => ∃ er, e = .returned (.int .i64 er) ∧ Aside0 (er = errA x) ∧ Aside0 (RefS w g (bitsOf (outA K x)) W' ∧ Same 3 76 W W') := by
  cases ho : okA x with
  | true =>
    refine (ref_code_fits x.f3 h ((okA_code hf).1 ho) (by omega) hl).mono ?_
    rintro e W' ⟨h5, h6⟩
    exact ⟨0, h5, ⟨(errA_ok ho).symm⟩, ⟨by rw [outA_ok ho, bitsOf_snoc, bitsA_code hf]; exact h6.out.1, h6.out.2⟩⟩
  | false =>
    have hk : ¬ BinT x.f3 := fun hk => by rw [(okA_code hf).2 hk] at ho; cases ho
    refine (ref_code_form g W x.f3 hk (by omega)).mono ?_
    rintro e W' ⟨h5, ⟨m, rfl⟩⟩
    exact ⟨14, h5, ⟨by unfold errA; rw [ho, hf]; rfl⟩, ⟨by rw [outA_no ho]; exact h.next (pw_below_drewN (Below.refl _ _) m), Same.of_below (pw_below_drewN (Below.refl _ _) m)⟩⟩

/-- Both pens, having taken the same acts. -/
structure PB (w : World) (g1 g2 : Nat) (K : List S67) (W : World) : Prop where
  pen : Pn w g1 (bitsOf K) W
  ref : RefS w g2 (bitsOf K) W
  oks : ∀ x ∈ K, okA x = true ∧ x.f3.size ≤ 100
theorem PB.next {w W W' : World} {g1 g2 : Nat} {K : List S67} (h : PB w g1 g2 K W) (hb : Below W.heap.size W W') : PB w g1 g2 K W' := ⟨h.pen.next hb, h.ref.next hb, h.oks⟩
theorem outA_oks {K : List S67} {x : S67} (h : ∀ y ∈ K, okA y = true ∧ y.f3.size ≤ 100) (hx : x.f3.size ≤ 100) : ∀ y ∈ outA K x, okA y = true ∧ y.f3.size ≤ 100 := by
  intro y hy
  cases ho : okA x with
  | true =>
    rw [outA_ok ho] at hy
    rcases List.mem_append.1 hy with h1 | h1
    · exact h y h1
    · obtain rfl := List.mem_singleton.1 h1; exact ⟨ho, hx⟩
  | false => rw [outA_no ho] at hy; exact h y hy
theorem outA_len (K : List S67) (x : S67) : (outA K x).length ≤ K.length + 1 := by
  cases ho : okA x with
  | true => rw [outA_ok ho]; simp
  | false => rw [outA_no ho]; omega
theorem below_from {w W V : World} (h1 : Below w.heap.size w W) (h2 : Below w.heap.size w V) (hk : Kept W V (fun _ => False)) : Below W.heap.size W V :=
  ⟨h2.os.trans h1.os.symm, h2.tape.trans h1.tape.symm, h2.output.trans h1.output.symm, hk.1, fun i hi => hk.2 i hi id⟩
/-- The cells of an act that came in, in whatever world behind. -/
theorem act_cells {w W : World} {ad : Addr} {n : Nat} {xs : List S67} {x : S67} (h : Kd.C k67 w (some ad) n xs) (hB : Below w.heap.size w W) (j : Nat) (hj : j < n) (hx : xs.getD j z67 = x) :
    W.cell? (ad.add (j * 4)) = some (.bool x.f0) ∧ W.cell? ⟨(ad.add (j * 4)).block, (ad.add (j * 4)).off + 1, none⟩ = some (.int .i64 x.f1) ∧ W.cell? ⟨(ad.add (j * 4)).block, (ad.add (j * 4)).off + 2, none⟩ = some (.int .i64 x.f2) ∧ W.cell? ⟨(ad.add (j * 4)).block, (ad.add (j * 4)).off + 3, none⟩ = some (.string x.f3) := by
  have := at_T67 (Kd.C_below h hB) (j : Int) (by omega) (by omega)
  obtain ⟨ad', he, h0, h1, h2, h3⟩ := this
  obtain rfl := Option.some.inj he
  unfold rd_T67 at h0 h1 h2 h3
  rw [show ((j : Int)).toNat = j from by omega, hx] at h0 h1 h2 h3
  exact ⟨h0, h1, h2, h3⟩
end Go.Proofs.Ytjbpcffmeaadeaa.Pp
