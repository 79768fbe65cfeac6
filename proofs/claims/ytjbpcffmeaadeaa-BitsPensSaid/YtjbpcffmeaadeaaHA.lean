import Derived.Test.YtjbpcffmeaadeaaBase
import Derived.Deep.Slices
import Derived.Lib.SmallJoins
/- A []Act that came in, opened: its acts, and the cells that they lie in. -/
namespace Go.Proofs.Ytjbpcffmeaadeaa.Pp
open Go.RowKit Go.ChangeShapes Go.WideShapes Go.Proofs.Ytjbpcffmeaadeaa.Pr Go.Proofs.YtjbpcffmeaadeaaW.PrintWords Go.Proofs.YtjbpcffmeaadeaaW.PrintLast Go.Proofs.YtjbpcffmeaadeaaW.PrintMore

instance : Inhabited S67 := ⟨z67⟩
theorem cells67 : Try.prog.cellsOf 67 = 4 := by kernel_rfl

set_option maxRecDepth 100000 in
theorem open_act {H : Type} {enc : TypeId × Value → H} {w : World} {base : Nat} {spare : Nat → Bool} {held : Bool} {fuel : Nat} {cs : List Value} {x : DataW H × List MemPlace} (hl : cs.length = 4) (h : DataW.trod enc Try.prog w base spare held fuel 67 cs = some x) :
    ∃ y : S67, cs = [.bool y.f0, .int .i64 y.f1, .int .i64 y.f2, .string y.f3] ∧ (Lit.int .i64 y.f1).wf = true := by
  obtain ⟨y0, y1, y2, y3, n, _, _, h0, h1, h2, h3⟩ := Go.Joins.trod_struct4 Try.underlying67 h
  match cs, hl with
  | [v0, v1, v2, v3], _ =>
    have c4 : Try.prog.cellsOf 4 = 1 := by kernel_rfl
    have c3 : Try.prog.cellsOf 3 = 1 := by kernel_rfl
    have c9 : Try.prog.cellsOf 9 = 1 := by kernel_rfl
    simp only [c4, c3, c9, List.drop_zero, List.drop_succ_cons, List.take_succ_cons, List.take_zero] at h0 h1 h2 h3
    obtain ⟨b, e0, _⟩ := DataW.trod_bool Try.underlying4 h0
    obtain ⟨n1, e1, _, wf1⟩ := DataW.trod_int Try.underlying3 h1
    obtain ⟨n2, e2, _, wf2⟩ := DataW.trod_int Try.underlying3 h2
    obtain ⟨s, e3, _, _⟩ := DataW.trod_string Try.underlying9 h3
    simp only [List.cons.injEq, and_true] at e0 e1 e2 e3
    subst e0; subst e1; subst e2; subst e3
    exact ⟨⟨b, n1, n2, s⟩, rfl, wf1⟩

set_option maxRecDepth 100000 in
theorem open_acts {H : Type} {enc : TypeId × Value → H} {w : World} {base : Nat} {spare : Nat → Bool} {held : Bool} {fuel : Nat} {cs : List Value} {x : DataW H × List MemPlace} (h : DataW.trod enc Try.prog w base spare held fuel 69 cs = some x) :
    ∃ (A : Option Addr) (cap : Nat) (xs : List S67), cs = [.slice A xs.length cap] ∧ xs.length ≤ cap ∧ Kd.C k67 w A xs.length xs ∧ xs.length ≤ maxLen ∧ ∀ j, j < xs.length → (Lit.int .i64 (xs.getD j z67).f1).wf = true := by
  rcases Go.Deep.open_slice Try.underlying69 h with ⟨rfl, _⟩ | ⟨a, len, cap, m, n, D, Pl, rfl, _, hl, hm, hmm, _, hx⟩
  · exact ⟨none, 0, [], rfl, Nat.le_refl _, Kd.C_nil _ _, by decide, fun j hj => by simp at hj⟩
  · have hlm : len ≤ m := by rw [hmm]; split <;> omega
    obtain ⟨f, hf⟩ := Go.Deep.choose_lt (α := S67) (n := len) (p := fun i y => (∀ j u, ([.bool y.f0, .int .i64 y.f1, .int .i64 y.f2, .string y.f3] : List Value)[j]? = some u → w.cell? (a.add (i * 4 + j)) = some u) ∧ (Lit.int .i64 y.f1).wf = true) (fun i hi => by
      obtain ⟨cs', h1, h2⟩ := hx i (by omega)
      rw [cells67] at h1
      obtain ⟨_, hlen, hcell⟩ := World.cells?_some h1
      obtain ⟨y, rfl, hw⟩ := open_act hlen h2
      refine ⟨y, fun j u hu => ?_, hw⟩
      have hj : j < 4 := by have := (List.getElem?_eq_some_iff.1 hu).1; simpa using this
      have := hcell j hj
      rw [Go.Deep.add_add] at this
      rw [this, hu])
    refine ⟨some a, cap, (List.range len).map f, by simp, by simpa using hl, ⟨rfl, ?_, fun _ => ⟨a, rfl, fun j p hp => ?_⟩⟩, by simp; omega, fun j hj => ?_⟩
    · simp only [List.length_map, List.length_range]; have : maxLen ≤ 9223372036854775807 := by decide
      omega
    · have hj : j < len := by have := (List.getElem?_eq_some_iff.1 hp).1; simpa using this
      have hp' : f j = p := by simpa [hj] using hp
      subst hp'
      exact ⟨_, rfl, k67_mk w (f j), fun i u hu => (hf j hj).1 i u hu⟩
    · have hj' : j < len := by simpa using hj
      rw [List.getD_eq_getElem?_getD]
      simp only [List.getElem?_map, List.getElem?_range hj', Option.map_some, Option.getD_some]
      exact (hf j hj').2
end Go.Proofs.Ytjbpcffmeaadeaa.Pp
