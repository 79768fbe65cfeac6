import Derived.Test.YtjbpcffmeaadeaaM5
import Derived.Test.YtjbpcffmeaadeaaH4
/- PictureReads: the walk and the plain law, joined. -/
namespace Go.Proofs.Ytjbpcffmeaadeaa.Pc
open Go.RowKit Go.Proofs.Ytjbpcffmeaadeaa.Pr Go.Proofs.YtjbpcffmeaadeaaW.PrintWords Go.Proofs.YtjbpcffmeaadeaaW.PrintLast Go.Proofs.YtjbpcffmeaadeaaW.PrintMore

theorem awake17 (k : Nat) (hk : 60 ≤ k) : praxinoscopelaw17_awake.f k = some true :=
  mono_le _ praxinoscopelaw17_awake.mono hk (by decide +kernel)

theorem spP_len (b : List Int) : ∀ (f : Nat) (acc : List Int) (a e : Int), acc.length ≤ 32 → (spP b f acc a e).1.length ≤ 32 := by
  intro f
  induction f with
  | zero => intro acc a e h; simpa [spP] using h
  | succ f ih =>
    intro acc a e h
    simp only [spP]
    split
    · split
      · exact h
      · split
        · exact ih _ _ _ (by simp; omega)
        · exact h
    · exact h
theorem getP_len (b : List Int) (a : Int) : (getP b a).2.2.1.length ≤ 32 := by
  unfold getP
  split
  · simp
  · split
    · exact spP_len b 34 [] _ _ (by simp)
    · simp

theorem in64_of_wf {a : Int} (h : (Lit.int .i64 a).wf = true) : in64 a := by
  simp [Lit.wf] at h
  have e1 : IntKind.i64.min = -9223372036854775808 := by rfl
  have e2 : IntKind.i64.max = 9223372036854775807 := by rfl
  unfold in64
  omega

theorem pictureReads_walk (a0 : Option Addr) (len0 cap0 : Nat) (z0 : List Int) (a1 : Int) (w : World) (w0 : (a0 = none ∧ len0 = 0 ∧ cap0 = 0 ∧ z0 = []) ∨ ∃ x, a0 = some x ∧ len0 ≤ cap0 ∧ cap0 ≤ maxLen ∧ z0.length = cap0 ∧ (∀ i, i < z0.length → w.cell? (x.add i) = some (.int .u8 (z0.getD i 0))) ∧ ∀ n ∈ z0, (Lit.int .u8 n).wf = true) (y0 : len0 * 1 ≤ 140737488351232) (w1 : (Lit.int .i64 a1).wf = true) :
    Calls Try.prog 4 #[.slice a0 len0 cap0, .int .i64 a1] w fun e w' => e = .returned (.bool true) ∧ Below w.heap.size w w' := by
  obtain ⟨l0, rfl, hr0, hm0, hw0, hc0⟩ := ReadsInt.ofRowC w0
  have hb := OkB.of_wf y0 hw0
  have ha := in64_of_wf w1
  obtain ⟨r1, r2, r3, r4, r5, hp⟩ : ∃ r1 r2 r3 r4 r5, getP l0 a1 = (r1, r2, r3, r4, r5) := ⟨_, _, _, _, _, rfl⟩
  have hl := getP_len l0 a1
  rw [hp] at hl
  obtain ⟨r6, h6⟩ := over_f r3 (by have : r3.length ≤ 32 := hl; omega) 200 (by have : r3.length ≤ 32 := hl; omega)
  refine PictureReads_calls a0 cap0 l0 a1 w 200 r1 r2 r3 r4 r5 r6 (Kd.C_of_reads (d := (0 : Int)) (h1 := fun _ => rfl) hr0) hc0 (awake17 200 (by decide)) (fun _ => ?_) (fun _ => ?_) (fun _ => h6)
  · unfold picture_Get.f; rw [if_pos ⟨hb, ha⟩, hp]
  · rw [ref_Get_eq l0 hb a1 ha 200 (by decide), hp]
end Go.Proofs.Ytjbpcffmeaadeaa.Pc
