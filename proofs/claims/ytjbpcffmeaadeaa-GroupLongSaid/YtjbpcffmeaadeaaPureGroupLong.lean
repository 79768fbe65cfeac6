import Derived.Test.YtjbpcffmeaadeaaTopG5
import Derived.Test.YtjbpcffmeaadeaaM3
/- The plain law of GroupLong. -/
namespace Go.Proofs.Ytjbpcffmeaadeaa.Pure
open Go.RowKit Go.Proofs.Ytjbpcffmeaadeaa.Pr Go.Proofs.YtjbpcffmeaadeaaW.PrintWords Go.Proofs.YtjbpcffmeaadeaaW.PrintLast

/-- What the loop appends. -/
def ups (x : Int) (n : Nat) : List Int := (List.range n).map fun (i : Nat) => (x + (i : Int)) % 256
theorem ups_succ (x : Int) (n : Nat) : ups x n ++ [(x + (n : Int)) % 256] = ups x (n + 1) := by
  unfold ups; rw [List.range_succ, List.map_append]; rfl
theorem ups_length (x : Int) (n : Nat) : (ups x n).length = n := by simp [ups]
theorem ups_ok (x : Int) (n : Nat) (hn : n ≤ 1000) : OkB (ups x n) := by
  refine ⟨by rw [ups_length]; omega, fun y hy => ?_⟩
  unfold ups at hy
  obtain ⟨i, _, rfl⟩ := List.mem_map.mp hy
  omega

theorem long_loop (c x : Int) (l : List Int) (aw : Bool) (m : Nat) : ∀ (k i : Nat), i + m = 32 → m ≤ k →
    praxinoscopelaw18_GroupLong.l0 k c x l aw (ups x i) (i : Int) = praxinoscopelaw18_GroupLong.l0 (k - m) c x l aw (ups x 32) 32 := by
  induction m with
  | zero => intro k i hi hk; obtain rfl : i = 32 := by omega
            rfl
  | succ m ih =>
    intro k i hi hk
    obtain ⟨k, rfl⟩ : ∃ q, k = q + 1 := ⟨k - 1, by omega⟩
    conv => lhs; simp only [praxinoscopelaw18_GroupLong.l0]
    rw [if_pos (by omega), if_pos (by rw [ups_length]; omega), ups_succ, w64 _ (by omega) (by omega), show ((i : Int) + 1) = ((i + 1 : Nat) : Int) from by omega, ih k (i + 1) (by omega) (by omega)]
    rw [show k + 1 - (m + 1) = k - m from by omega]

theorem GroupLong : praxinoscopelaw18_GroupLong.Pure := by
  intro a0 a1 l2 w0 w1 m2 m2' w2
  obtain ⟨r0, e0, r00, r01⟩ := pick_eq a0 31 (by omega) (by omega)
  obtain ⟨K, hK⟩ : ∃ K : Nat, K = 2000 := ⟨_, rfl⟩
  refine ⟨K + 34, ?_⟩
  unfold praxinoscopelaw18_GroupLong.f
  rw [awake18 _ (by omega), Option.bind_some, e0, Option.bind_some]
  by_cases c1 : (l2.length : Int) > 20
  · rw [if_pos c1]
  rw [if_neg c1, w64 (1 + r0) (by omega) (by omega)]
  have hl := long_loop (1 + r0) a1 l2 true 32 (K + 34) 0 (by omega) (by omega)
  rw [show ((0 : Nat) : Int) = 0 from rfl, show K + 34 - 32 = K + 2 from by omega] at hl
  have h0 : ups a1 0 = [] := rfl
  rw [h0] at hl
  rw [hl]
  have hu := ups_length a1 32
  have ho := ups_ok a1 32 (by omega)
  have hpl := putL_length (1 + r0) (ups a1 32)
  have hpb := putL_bin (1 + r0) (ups a1 32)
  rw [hu] at hpl
  simp only [praxinoscopelaw18_GroupLong.l0]
  rw [if_neg (by decide), group_Put_eq (1 + r0) (ups a1 32) (by omega) (by omega) ho (by omega) (K + 1) (by omega), Option.bind_some]
  have hcp : praxinoscopekit_CopyBytes.f (ups a1 32) = some (ups a1 32) := by
    unfold praxinoscopekit_CopyBytes.f
    rw [Option.bind_some, if_pos (by rw [hu]; simp)]
    simp
  rw [hcp, Option.bind_some, if_pos (by omega), group_Put_no (1 + r0) (ups a1 32 ++ [a1]) (.inr (.inr (by simp [hu]))) (K + 1) (by omega), Option.bind_some]
  simp only [if_true]
  rw [bits18 _ (by omega) hpb (K + 1) (by omega), Option.bind_some]
  simp only [if_true]
  rw [ba_size, hpl, show ((((6 + 9 * 32 : Nat)) : Int) != 294) = false from by decide]
  simp only [praxinoscopelaw18_GroupLong.j1]
  rw [if_neg (by decide), if_pos (by decide), ba_size, hpl, if_pos (by decide)]
  -- the text with its last digit turned
  have hput : putL (1 + r0) (ups a1 32) = (digs (1 + r0) 5 ++ spares (ups a1 32)) ++ [48] := by unfold putL; rw [List.append_assoc]
  have hd : (digs (1 + r0) 5 ++ spares (ups a1 32)).length = 293 := by simp [digs_length, spares_length, hu]
  have hex : (⟨(putL (1 + r0) (ups a1 32)).toArray⟩ : ByteArray).extract 0 293 = ⟨(digs (1 + r0) 5 ++ spares (ups a1 32)).toArray⟩ := by
    apply ByteArray.ext
    rw [hput]
    have := List.take_left' (l₂ := [48]) hd
    simpa using this
  have hex1 : (⟨(putL (1 + r0) (ups a1 32)).toArray⟩ : ByteArray).extract 0 293 ++ (⟨#[49]⟩ : ByteArray) = ⟨(digs (1 + r0) 5 ++ (spares (ups a1 32) ++ [49])).toArray⟩ := by
    rw [hex, ← List.append_assoc]
    exact ba_app _ [49]
  rw [hex1, hex, ba_size, hd, if_pos (by decide)]
  simp only [if_true]
  obtain ⟨p1, hp1, ho1, _, hr1, _⟩ := bytes18 0 (putL (1 + r0) (ups a1 32)) l2 (by omega) (by omega) (by omega) hpb K (by omega)
  rw [show ((0 : Nat) : Int) = 0 from rfl] at hp1
  rw [hp1, Option.bind_some]
  have g1 := get_ok p1 ho1 0 (1 + r0) (ups a1 32) (by omega) (by omega) ho (by omega) K (by omega) hr1
  rw [hu, show ((0 : Nat) : Int) = 0 from rfl, show ((6 + 9 * 32 : Nat) : Int) = 294 from rfl] at g1
  rw [gets18 g1, Option.bind_some]
  simp only [if_true]
  have h2b : Bin (digs (1 + r0) 5 ++ (spares (ups a1 32) ++ [49])) := (digs_bin _ _).append ((spares_bin _).append (by intro c hc; simp at hc; exact .inr hc))
  have h2l : (digs (1 + r0) 5 ++ (spares (ups a1 32) ++ [49])).length = 294 := by simp [digs_length, spares_length, hu]
  obtain ⟨p2, hp2, ho2, _, hr2, _⟩ := bytes18 0 (digs (1 + r0) 5 ++ (spares (ups a1 32) ++ [49])) l2 (by omega) (by omega) (by omega) h2b K (by omega)
  rw [show ((0 : Nat) : Int) = 0 from rfl] at hp2
  rw [hp2, Option.bind_some]
  have g2 := get_over p2 ho2 0 (1 + r0) (ups a1 32) (by omega) (by omega) ho hu K (by omega) hr2
  rw [show ((0 : Nat) : Int) = 0 from rfl] at g2
  rw [gets18 g2, Option.bind_some]

end Go.Proofs.Ytjbpcffmeaadeaa.Pure
