import Derived.Test.YtjbpcffmeaadeaaMC
import Derived.Test.YtjbpcffmeaadeaaH9
/- PictureBack: the walk and the plain law, joined. -/
namespace Go.Proofs.Ytjbpcffmeaadeaa.Pp
open Go.RowKit Go.Proofs.Ytjbpcffmeaadeaa.Pr Go.Proofs.Ytjbpcffmeaadeaa.Pc Go.Proofs.YtjbpcffmeaadeaaW.PrintWords Go.Proofs.YtjbpcffmeaadeaaW.PrintLast Go.Proofs.YtjbpcffmeaadeaaW.PrintMore

theorem head_same (t ty : Int) (s : List Int) : praxinoscopekit_SameHead.f t ty s t ty s = some true := by simp [praxinoscopekit_SameHead.f, praxinoscopekit_SameBytes.f]

theorem back_fin (t ty : Int) (s : List Int) (t0 : 0 ≤ t) (t1 : t ≤ 31) (y0 : 0 ≤ ty) (y1 : ty ≤ 63) (hs : OkB s) (hn : s.length ≤ 32) (m : Nat) (B bs : List Int)
    (h : Packs ((List.replicate m 1 ++ cd (⟨(picL t ty s).toArray⟩ : ByteArray) (⟨(picL t ty s).toArray⟩ : ByteArray).size) ++ B) bs) :
    praxinoscopelaw17_gets.f bs (m : Int) t ty s ((⟨(picL t ty s).toArray⟩ : ByteArray).size : Int) 0 = some true ∧
    praxinoscopelaw17_gets.f (bs.take ((m + (⟨(picL t ty s).toArray⟩ : ByteArray).size - 1) / 8)) (m : Int) 0 0 [] 0 5 = some true := by
  rw [ba_size] at h ⊢
  have hr := reads_packs (picL_bin t ty s) h
  rw [List.length_replicate] at hr
  have hl := hr.1
  have hpl := picL_length t ty s
  rw [hpl] at hl ⊢
  refine ⟨?_, ?_⟩
  · unfold praxinoscopelaw17_gets.f
    rw [get_exact bs h.ok m t ty s t0 t1 y0 y1 hs hn hr, Option.bind_some]
    simp only [head_same, Option.bind_some, if_true]
    rfl
  · unfold praxinoscopelaw17_gets.f
    rw [get_short bs h.ok m ((m + (12 + 9 * s.length) - 1) / 8) (by omega) t ty s hn hr (by omega) (by omega), Option.bind_some]
    simp only [head_same, Option.bind_some, if_true]
    rfl

theorem pictureBack_walk (t ty : Int) (a0 : Option Addr) (len0 cap0 : Nat) (z0 : List Int) (a1 : Int) (a2 : Option Addr) (len2 cap2 : Nat) (z2 : List Int) (w : World)
    (w0 : (a0 = none ∧ len0 = 0 ∧ cap0 = 0 ∧ z0 = []) ∨ ∃ x, a0 = some x ∧ len0 ≤ cap0 ∧ cap0 ≤ maxLen ∧ z0.length = cap0 ∧ (∀ i, i < z0.length → w.cell? (x.add i) = some (.int .u8 (z0.getD i 0))) ∧ ∀ n ∈ z0, (Lit.int .u8 n).wf = true)
    (w2 : (a2 = none ∧ len2 = 0 ∧ cap2 = 0 ∧ z2 = []) ∨ ∃ x, a2 = some x ∧ len2 ≤ cap2 ∧ cap2 ≤ maxLen ∧ z2.length = cap2 ∧ (∀ i, i < z2.length → w.cell? (x.add i) = some (.int .u8 (z2.getD i 0))) ∧ ∀ n ∈ z2, (Lit.int .u8 n).wf = true)
    (hb : len2 * 1 ≤ 140737488351232) :
    Calls Try.prog 9 #[.agg #[.int .i64 t, .int .i64 ty, .slice a0 len0 cap0], .int .i64 a1, .slice a2 len2 cap2] w fun e w' => e = .returned (.bool true) ∧ Below w.heap.size w w' := by
  obtain ⟨l0, rfl, hr0, hm0, hw0, hc0⟩ := ReadsInt.ofRowC w0
  obtain ⟨l2, rfl, hr2, hm2, hw2, hc2⟩ := ReadsInt.ofRowC w2
  have hC0 := Kd.C_of_reads (d := (0 : Int)) (h1 := fun _ => rfl) hr0
  have hC2 := Kd.C_of_reads (d := (0 : Int)) (h1 := fun _ => rfl) hr2
  have hb2 := OkB.of_wf (l := l2) hb hw2
  obtain ⟨m, hm, m0, m1⟩ := pick_eq a1 41 (by decide) (by decide)
  obtain ⟨m, rfl⟩ := Int.eq_ofNat_of_zero_le m0
  have hk : praxinoscopelaw17_PictureKnown.f 2000 = some true := mono_le _ praxinoscopelaw17_PictureKnown.mono (show 60 ≤ 2000 by decide) (by decide +kernel)
  by_cases hok : 0 ≤ t ∧ t ≤ 31 ∧ 0 ≤ ty ∧ ty ≤ 63 ∧ l0.length ≤ 32
  · obtain ⟨t0, t1, y0, y1, hn⟩ := hok
    have hb0 := OkB.of_wf (l := l0) (by omega) hw0
    refine back_walk t ty a0 cap0 l0 a1 a2 cap2 l2 w m 2000 ⟨(picL t ty l0).toArray⟩ 0 hC0 hc0 hC2 hc2 hb2 hk hm (by omega) (fun _ => put_eq t ty l0 t0 t1 y0 y1 hb0 hn 2000 (by omega)) (fun h => absurd rfl h)
      (fun _ => ⟨binT_of (picL_bin t ty l0), by rw [ba_size, picL_length], hn⟩) (fun _ bs hp => back_fin t ty l0 t0 t1 y0 y1 hb0 hn m _ bs hp)
  · have hno : t < 0 ∨ 31 < t ∨ ty < 0 ∨ 63 < ty ∨ 32 < l0.length := by omega
    exact back_walk t ty a0 cap0 l0 a1 a2 cap2 l2 w m 2000 ⟨#[]⟩ 2 hC0 hc0 hC2 hc2 hb2 hk hm (by omega) (fun _ => put_no t ty l0 hno 2000) (fun _ => ⟨rfl, rfl, check_no t ty l0 hno⟩)
      (fun h => absurd h (by decide)) (fun h => absurd h (by decide))
end Go.Proofs.Ytjbpcffmeaadeaa.Pp
