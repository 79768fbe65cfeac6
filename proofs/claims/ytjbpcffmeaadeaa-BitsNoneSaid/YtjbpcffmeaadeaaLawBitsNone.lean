/- The row of BitsNone: called with any act, in any memory, it answers true; no condition. (Turned from a printed row.) -/
import Derived.Test.YtjbpcffmeaadeaaRows
import Derived.Test.YtjbpcffmeaadeaaJoin
import Derived.Test.YtjbpcffmeaadeaaPureBitsNone
import Derived.WalkKit
import Derived.ProofKit
import Derived.OpenShut
import Derived.ShutString
import Derived.ChangeOld
import Derived.Below
import Derived.SizedLaws
import Derived.Lib.SmallJoins
namespace Go.Proofs.Ytjbpcffmeaadeaa.bitsNone
open Go.ChangeShapes Go.WideShapes Go.ChangeAt Go.RowKit
open Go.ChangeMaps (open_string shut_string)
set_option linter.unusedVariables false
theorem own : ownKnob Try.prog.godebug = none := by kernel_rfl
theorem laidOut : laidOutB Try.prog = true := by kernel_rfl
set_option maxRecDepth 100000 in
theorem lifted (os : Os) (started : os.Started) (H : Type) (enc : TypeId × Value → H) :
    ReturnsInHanded {} Try.checked os 12 .any (Rows.bitsNoneSpec.pre6 enc Try.prog Try.f12 Rows.bitsNoneRow.domain false) (Rows.bitsNoneSpec.post enc Try.prog Try.f12 false true false false) := by
  refine returnsInHanded_of_change_sized (C := Try.checked) own started (by kernel_rfl) Try.func12
    (ChangeSpec.witness6 (enc := enc) (C := Try.checked) false ⟨#[], #[.agg #[.bool false, .int .i64 0, .int .i64 0, .string ⟨#[]⟩]], []⟩ 8 (by kernel_rfl) (by kernel_rfl) (by kernel_rfl) (by kernel_rfl)) ?_
  intro W base args ds gs before hval0 hW hcnd hsz0 _
  have hsz : (DataW.weightsEach Try.prog (Try.f12.params.toList ++ Rows.bitsNoneSpec.plain.varTypes Try.prog) (ds ++ gs)).all (· ≤ reachBytes) = true := hsz0
  have hval : ∀ (j : Nat) t v, Try.f12.params[j]? = some t → args[j]? = some v → Value.okWide Try.prog W .any base t v := hval0
  have hW' := hW
  obtain ⟨p, q, hA0, hV, rfl, hfz, hnd⟩ := hW
  have hA : DataW.TrodAll enc Try.prog W 0 (fun _ => true) true Try.f12.params.toList args.toList ds p := hA0
  rw [Try.params12] at hA hval hsz
  obtain ⟨v0, vs0, d0, ds0, p0, q0, hargs, rfl, rfl, h0, r0⟩ := trodAll_cons hA
  obtain ⟨rfl, rfl, rfl⟩ := trodAll_nil r0
  obtain rfl : args = #[v0] := by cases args; simp_all
  obtain ⟨rfl, rfl⟩ := trodVars_none hV
  have k0 := h0
  have lt0 : ∀ x ∈ p0, x.block < W.heap.size := by obtain ⟨m, hm⟩ := k0; exact DataW.trod_lt m _ _ _ hm
  obtain ⟨x0, x1, x2, x3, y0, y1, y2, y3, n, rfl, rfl, rfl, t0, t1, t2, t3⟩ := Go.Joins.open_agg4 Try.underlying67 (by kernel_rfl) (by kernel_rfl) (hval 0 67 v0 rfl rfl) h0
  obtain ⟨a0, e0, rfl⟩ := DataW.trod_bool Try.underlying4 t0
  obtain ⟨a1, e1, rfl, wf1⟩ := DataW.trod_int Try.underlying3 t1
  obtain ⟨a2, e2, rfl, wf2⟩ := DataW.trod_int Try.underlying3 t2
  obtain ⟨a3, e3, rfl, hs3⟩ := DataW.trod_string Try.underlying9 t3
  obtain rfl : x0 = .bool a0 := by simpa using e0
  obtain rfl : x1 = .int .i64 a1 := by simpa using e1
  obtain rfl : x2 = .int .i64 a2 := by simpa using e2
  obtain rfl : x3 = .string a3 := by simpa using e3
  clear hA0 hval0 hsz0 hsz
  refine (Pp.bitsNone_walk a0 a1 a2 a3 W).mono fun e W' ⟨he, bel⟩ => ?_
  subst he
  exact ⟨_, rfl, _, _, _, [], _, [], hW', trodAll_mk1 (shut_bool Try.underlying4 _), (trodAll_cons_mk (Below.trod laidOut (by kernel_rfl) (of_decide_eq_true (by kernel_rfl)) k0 bel lt0) trodAll_mk0), rfl, bel.frame _, fun h => by cases h⟩
theorem joined : joinedFacts Try.pinned.checked.prog 12 Try.f12 Rows.bitsNoneSpec Rows.bitsNoneRow = true := by
  simp only [joinedFacts, Join.laidOut, Join.mapsRow, Join.heard, Join.enter, Join.lifts, Join.makes, Join.plains]
  kernel_rfl
theorem over : Rows.bitsNoneRow.holds Try.pinned (OpenSpec.ofChange Rows.bitsNoneSpec) :=
  OpenClaim.holds_of_wide 12 Try.f12 rfl rfl rfl rfl rfl rfl rfl ⟨rfl, rfl, rfl, rfl, rfl⟩ rfl rfl rfl rfl rfl (by kernel_rfl) Try.func12 joined
    (of_decide_eq_true (by kernel_rfl)) (by unfold Func.isWrapper; first | (rw [if_pos (by decide +kernel)]; kernel_rfl) | (rw [if_neg (by decide +kernel)]; exact ⟨rfl, rfl⟩))
    (fun os started H enc _ => lifted os started H enc)
theorem proved : Rows.BitsNoneSaid := over
#print axioms proved
end Go.Proofs.Ytjbpcffmeaadeaa.bitsNone
namespace Go.Proofs.Ytjbpcffmeaadeaa
/-- The row, under a short name, for the claim. -/
theorem bitsNone_holds : Rows.BitsNoneSaid := bitsNone.proved
end Go.Proofs.Ytjbpcffmeaadeaa
