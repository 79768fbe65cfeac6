import Derived.Test.YtjbpcffmeaadeaaTopG3
import Derived.Test.YtjbpcffmeaadeaaM3
import Derived.Test.YtjbpcffmeaadeaaPureGroupKnown
/- The plain law of GroupBack. -/
namespace Go.Proofs.Ytjbpcffmeaadeaa.Pure
open Go.RowKit Go.Proofs.Ytjbpcffmeaadeaa.Pr Go.Proofs.YtjbpcffmeaadeaaW.PrintWords Go.Proofs.YtjbpcffmeaadeaaW.PrintLast

theorem known18 (k : Nat) (hk : 60 ≤ k) : praxinoscopelaw18_GroupKnown.f k = some true :=
  mono_le _ praxinoscopelaw18_GroupKnown.mono hk (by decide +kernel)

theorem GroupBack : praxinoscopelaw18_GroupBack.Pure := by
  intro a0 a1 l2 a3 l4 w0 w1 m2 m2' w2 w3 m4 m4' w4
  have hs := OkB.of_wf m2' w2
  obtain ⟨r0, e0, r00, r01⟩ := pick_eq a0 15 (by omega) (by omega)
  obtain ⟨r1, e1, r10, r11⟩ := pick_eq a1 31 (by omega) (by omega)
  obtain ⟨r3, e3, r30, r31⟩ := pick_eq a3 41 (by omega) (by omega)
  obtain ⟨K, hK⟩ : ∃ K : Nat, K = 2000 := ⟨_, rfl⟩
  refine ⟨K + 2, ?_⟩
  unfold praxinoscopelaw18_GroupBack.f
  rw [known18 _ (by omega), Option.bind_some, e0, Option.bind_some, e1, Option.bind_some, e3, Option.bind_some]
  by_cases c1 : (l2.length : Int) > 32
  · rw [if_pos c1]; simp [praxinoscopelaw18_GroupBack.j0]
  rw [if_neg c1]
  by_cases c2 : (l4.length : Int) > 60
  · rw [decide_eq_true c2]; simp [praxinoscopelaw18_GroupBack.j0]
  rw [decide_eq_false c2, w64 (1 + r0) (by omega) (by omega), w64 (1 + r1) (by omega) (by omega)]
  have hpl := putL_length (1 + r1) l2
  have hwl : (wholeL (1 + r0) (1 + r1) l2).length = 26 + 9 * l2.length := by
    unfold wholeL; rw [List.length_append, startL_length, hpl]; omega
  have hpb := putL_bin (1 + r1) l2
  have hwb : Bin (wholeL (1 + r0) (1 + r1) l2) := (startL_bin _).append hpb
  simp only [praxinoscopelaw18_GroupBack.j0]
  rw [if_neg (by decide), group_Put_eq (1 + r1) l2 (by omega) (by omega) hs (by omega) (K + 1) (by omega), Option.bind_some,
    group_Whole_eq (1 + r0) (1 + r1) l2 (by omega) (by omega) (by omega) (by omega) hs (by omega) (K + 1) (by omega), Option.bind_some]
  simp only [if_true]
  rw [bits18 _ (by omega) hpb (K + 1) (by omega), Option.bind_some, bits18 _ (by omega) hwb (K + 1) (by omega), Option.bind_some]
  simp only [if_true, ba_size]
  rw [w64 (9 * _) (by omega) (by omega), w64 (6 + _) (by omega) (by omega), w64 (20 + _) (by omega) (by omega), if_pos (by omega)]
  rw [show (((wholeL (1 + r0) (1 + r1) l2).length : Int) != 20 + ((putL (1 + r1) l2).length : Int)) = false from by rw [bne_eq_false_iff_eq]; omega]
  simp only [praxinoscopelaw18_GroupBack.j1]
  rw [if_neg (by decide)]
  simp only [if_true]
  obtain ⟨p1, hp1, ho1, _, hr1, _⟩ := bytes18 0 (putL (1 + r1) l2) l4 (by omega) (by omega) (by omega) hpb K (by omega)
  rw [show ((0 : Nat) : Int) = 0 from rfl] at hp1
  rw [hp1, Option.bind_some]
  have g1 := get_ok p1 ho1 0 (1 + r1) l2 (by omega) (by omega) hs (by omega) K (by omega) hr1
  rw [show ((0 : Nat) : Int) = 0 from rfl] at g1
  rw [ba_size, hpl, gets18 g1, Option.bind_some]
  simp only [if_true]
  obtain ⟨p2, hp2, ho2, _, hr2, hz2⟩ := bytes18 r3.toNat (wholeL (1 + r0) (1 + r1) l2) l4 (by omega) (by omega) (by omega) hwb K (by omega)
  rw [show ((r3.toNat : Nat) : Int) = r3 from by omega] at hp2
  rw [hp2, Option.bind_some]
  have g2 := open_ok p2 ho2 r3.toNat (1 + r0) (1 + r1) l2 (by omega) (by omega) (by omega) (by omega) hs (by omega) K (by omega) hr2 hz2
  rw [ba_size, hwl, w64 (r3 + _) (by omega) (by omega), show (r3 + ((26 + 9 * l2.length : Nat) : Int)) = ((r3.toNat + 26 + 9 * l2.length : Nat) : Int) from by omega, opens18 g2, Option.bind_some]

end Go.Proofs.Ytjbpcffmeaadeaa.Pure
