import Derived.Test.YtjbpcffmeaadeaaP5
import Derived.Lib.OthersKept
/- The contract of a pen's Code; Bytes of no pen. -/
namespace Go.Proofs.Ytjbpcffmeaadeaa.Pp
open Go.RowKit Go.Proofs.Ytjbpcffmeaadeaa.Pr Go.Proofs.YtjbpcffmeaadeaaW.PrintWords Go.Proofs.YtjbpcffmeaadeaaW.PrintLast Go.Proofs.YtjbpcffmeaadeaaW.PrintMore

/-- The bits of a text's first n digits. -/
def cd (s : ByteArray) : Nat → List Int
  | 0 => []
  | n + 1 => cd s n ++ [bt s (n : Int) - 48]
theorem cd_length (s : ByteArray) (n : Nat) : (cd s n).length = n := by
  induction n with
  | zero => rfl
  | succ n ih => simp [cd, ih]
/-- All of a text's signs are digits 0 and 1. -/
def BinT (s : ByteArray) : Prop := ∀ i : Nat, i < s.size → bt s (i : Int) = 48 ∨ bt s (i : Int) = 49

theorem PenS.iterAt {base : Nat} {ok : Nat → Prop} {g K p : Nat} {L : List Int} {V : World} {s : ByteArray} (h : PenS base ok g L V) (hk : V.heap[K]? = some (.stringIter s p)) (p' : Nat) : PenS base ok g L (V.iterAt K s p') := by
  obtain ⟨bs, v, h1, h2, h3⟩ := h
  refine ⟨bs, v, ?_, ?_, h3⟩
  · rw [Lib.iterAt_other _ _ _ _ _ (fun e => by subst e; rw [hk] at h1; cases h1)]; exact h1
  · refine Kd.R_mono (Kd.R_step (Kd.R_bound h2) (fun k hk' _ => ?_)) (fun k hk' => hk'.1)
    obtain ⟨_, _, _, q, _, cells, hc⟩ := hk'
    exact Lib.iterAt_other _ _ _ _ _ (fun e => by subst e; rw [hk] at hc; cases hc)
theorem PenS.bound {base : Nat} {ok : Nat → Prop} {g : Nat} {L : List Int} {V : World} (h : PenS base ok g L V) : PenS base (fun k => ok k ∧ k < V.heap.size) g L V := by
  obtain ⟨bs, v, h1, h2, h3⟩ := h
  exact ⟨bs, v, h1, Kd.R_mono (Kd.R_bound h2) (fun k hk => ⟨hk.1, hk.2.2.1⟩), h3⟩
theorem PenS.lt {base : Nat} {ok : Nat → Prop} {g : Nat} {L : List Int} {V : World} (h : PenS base ok g L V) : g < V.heap.size := by
  obtain ⟨bs, v, h1, h2, h3⟩ := h
  exact blk_lt h1
theorem PenK.iterAt {w0 W V : World} {ok : Nat → Prop} {g K p : Nat} {L : List Int} {s : ByteArray} (h : PenK w0 W ok g L V) (hk : V.heap[K]? = some (.stringIter s p)) (p' : Nat) (h0 : w0.heap.size ≤ K) : PenS w0.heap.size (fun k => ok k ∨ W.heap.size ≤ k) g L (V.iterAt K s p') ∧ Below w0.heap.size w0 (V.iterAt K s p') :=
  ⟨h.pen.iterAt hk p', Lib.below_iterAt h.below h0 s p'⟩

theorem iterPos_of {w : World} {k : Nat} {s : ByteArray} {p : Nat} (h : w.heap[k]? = some (.stringIter s p)) : w.iterPos k = p := by simp [World.iterPos, h]
/-- A pen while a text is gone through: the text's iterator stands in the block behind W. -/
structure PenI (w0 W : World) (ok : Nat → Prop) (g : Nat) (s : ByteArray) (p : Nat) (L : List Int) (V : World) : Prop where
  pen : PenS w0.heap.size (fun k => (ok k ∧ k < W.heap.size) ∨ W.heap.size + 1 ≤ k) g L V
  below : Below w0.heap.size w0 V
  kept : Kept W V (fun k => k = g ∨ ok k)
  iter : V.heap[W.heap.size]? = some (.stringIter s p)
  le : w0.heap.size ≤ W.heap.size
theorem PenI.start {w0 W : World} {ok : Nat → Prop} {g : Nat} {L : List Int} (s : ByteArray) (h : PenS w0.heap.size ok g L W) (hB : Below w0.heap.size w0 W) : PenI w0 W ok g s 0 L (W.iter s 0) :=
  ⟨(h.bound.below (below_alloc (Below.refl _ _) _)).mono (fun _ hk => .inl hk), below_alloc hB _, (Kept.refl _ _).alloc _, World.iter_heap W s 0, hB.size⟩
theorem PenI.next {w0 W V : World} {ok : Nat → Prop} {g p : Nat} {L : List Int} {s : ByteArray} (h : PenI w0 W ok g s p L V) (p' : Nat) : PenI w0 W ok g s p' L (V.iterAt W.heap.size s p') :=
  ⟨h.pen.iterAt h.iter p', Lib.below_iterAt h.below h.le s p', ⟨by rw [Lib.iterAt_size]; exact h.kept.1, fun i hi hn => (Lib.iterAt_other _ _ _ _ _ (by omega)).trans (h.kept.2 i hi hn)⟩, Lib.iterAt_heap _ _ _ _ _ h.iter, h.le⟩
theorem PenI.step {w0 W V V' : World} {ok : Nat → Prop} {g p : Nat} {L L' : List Int} {s : ByteArray} (h : PenI w0 W ok g s p L V)
    (p1 : PenS w0.heap.size (fun k => ((ok k ∧ k < W.heap.size) ∨ W.heap.size + 1 ≤ k) ∨ V.heap.size ≤ k) g L' V') (p2 : Below w0.heap.size w0 V') (p3 : Kept V V' (fun k => k = g ∨ ((ok k ∧ k < W.heap.size) ∨ W.heap.size + 1 ≤ k))) : PenI w0 W ok g s p L' V' := by
  have hlt := blk_lt h.iter
  have hle := h.kept.1
  have hg : W.heap.size ≠ g := by
    rintro e
    obtain ⟨bs, v, h1, _, _⟩ := h.pen
    have := h.iter
    rw [e, h1] at this
    cases this
  refine ⟨p1.mono (fun k hk => ?_), p2, ⟨Nat.le_trans hle p3.1, fun k hk hn => ?_⟩, ?_, h.le⟩
  · rcases hk with hk | hk
    · exact hk
    · exact .inr (by omega)
  · refine (p3.2 k (by omega) ?_).trans (h.kept.2 k hk hn)
    rintro (h1 | h1 | h1)
    · exact hn (.inl h1)
    · exact hn (.inr h1.1)
    · omega
  · refine (p3.2 _ hlt ?_).trans h.iter
    rintro (h1 | h1 | h1)
    · exact hg h1
    · omega
    · omega
theorem PenI.done {w0 W V : World} {ok : Nat → Prop} {g p : Nat} {L : List Int} {s : ByteArray} (h : PenI w0 W ok g s p L V) : PenK w0 W ok g L V :=
  ⟨h.pen.mono (fun k hk => by rcases hk with hk | hk; exact .inl hk.1; exact .inr (by omega)), h.below, h.kept⟩
theorem PenK.drew {w0 W V : World} {ok : Nat → Prop} {g : Nat} {L : List Int} {m : Nat} (h : PenK w0 (W.drewN m) ok g L V) : PenK w0 W ok g L V := ⟨h.pen, h.below, h.kept⟩

set_option maxHeartbeats 4000000 in
set_option maxRecDepth 100000 in
/-- Code of a text of digits that fits. -/
theorem code_fits (w0 W : World) (ok : Nat → Prop) (g : Nat) (L : List Int) (s : ByteArray) (hB : Below w0.heap.size w0 W) (hg : w0.heap.size ≤ g) (hP : PenS w0.heap.size ok g L W) (hs : BinT s) (hn : s.size ≤ 1000) (hl : L.length + s.size ≤ 16777216) :
    Calls Try.prog 51 #[.pointer (some ⟨g, 0, none⟩), .string s] W fun e W' => e = .returned (.int .i64 0) ∧ PenK w0 W ok g (L ++ cd s s.size) W' := by
  have HP := Aside0.mk hP
  have HB := Aside0.mk hB
  have Hs := Aside0.mk hs
  clear hP hB hs
  go_enter Try.func51, Try.ntmps51
  go_wp2_with (fail)
  refine (none_calls HP.out).mono ?_
  rintro e w' ⟨rfl, rfl⟩
  go_wp2
  go_loopw [13] (fun v13 wr => ∃ (i : Nat), v13 = .int .i64 (i : Int) ∧ i ≤ s.size ∧ Drawn0 W wr) (fun v13 _ => s.size - (intOf v13).toNat)
  case atStart => exact ⟨0, rfl, by omega, Drawn0.refl _⟩
  case round =>
    obtain ⟨i, rfl, hi, ⟨m, rfl⟩⟩ := hrel
    by_cases hlt : (i : Int) < (s.size : Int)
    · have hd : decide ((i : Int) < (s.size : Int)) = true := decide_eq_true hlt
      have p4 : 0 ≤ (i : Int) := by omega
      have q4 : (i : Int) < (s.size : Int) := hlt
      have hx4 : ∀ h : i < s.size, ((s[i]'h).toNat : Int) = bt s (i : Int) := fun h => by simp [bt, h]
      replace p4 := eq_true p4
      replace q4 := eq_true q4
      have hw1 : IntKind.i64.wrap ((i : Int) + 1) = ((i + 1 : Nat) : Int) := by rw [IntKind.wrap_i64]; omega
      rcases Hs.out i (by omega) with h48 | h49
      · have hb1 : (bt s (i : Int) != 48) = false := bne_eq_false_iff_eq.mpr h48
        go_wp2
        go_roundw
        case rel => exact ⟨i + 1, rfl, by omega, by repeat (first | exact Drawn0.refl _ | apply Drawn0.step)⟩
        case measure => simp [intOf]; omega
      · have hb1 : (bt s (i : Int) != 48) = true := bne_iff_ne.mpr (by omega)
        have hb2 : (bt s (i : Int) != 49) = false := bne_eq_false_iff_eq.mpr h49
        go_wp2
        go_roundw
        case rel => exact ⟨i + 1, rfl, by omega, by repeat (first | exact Drawn0.refl _ | apply Drawn0.step)⟩
        case measure => simp [intOf]; omega
    · have hd : decide ((i : Int) < (s.size : Int)) = false := decide_eq_false hlt
      have HP2 := Aside0.mk (HP.out.below (pw_below_drewN (Below.refl _ _) m))
      have HB2 := Aside0.mk (pw_below_drewN HB.out m)
      obtain ⟨V, hV⟩ : ∃ V, W.drewN m = V := ⟨_, rfl⟩
      rw [hV] at HP2 HB2
      go_wp2_with (fail)
      refine (full_calls (s.size : Int) HP2.out (by omega) (by omega)).mono ?_
      rintro e w' ⟨rfl, rfl⟩
      have hfl : decide ((L.length : Int) + (s.size : Int) > 16777216) = false := decide_eq_false (by omega)
      have hfl' : decide (16777216 < (L.length : Int) + (s.size : Int)) = false := decide_eq_false (by omega)
      have hfl2 : ¬ ((L.length : Int) + (s.size : Int) > 16777216) := by omega
      have HI := Aside0.mk (PenI.start s HP2.out HB2.out)
      clear hd hlt hi HP HB
      go_wp2_with (fail)
      go_loopw [8] (fun _ wr => ∃ (p : Nat), Aside0 (PenI w0 V ok g s p (L ++ cd s p) wr) ∧ p ≤ s.size) (fun _ wr => s.size - wr.iterPos V.heap.size)
      case atStart => exact ⟨0, ⟨by simpa [cd] using HI.out⟩, by omega⟩
      case round =>
        obtain ⟨p, HR, hp⟩ := hrel
        have hit := HR.out.iter
        by_cases hps : p < s.size
        · have hbt := Hs.out p hps
          have hbe : ((s[p]'hps).toNat : Int) = bt s (p : Int) := by simp [bt, hps]
          have hnx := fun ty => Lib.run_next_ascii_at (P := Try.prog) wr V.heap.size s p ty hit hps (by omega)
          rw [hbe] at hnx
          have hw48 : IntKind.i32.wrap (bt s (p : Int) - 48) = bt s (p : Int) - 48 := by rw [IntKind.wrap_i32]; omega
          have hw48' : IntKind.i64.wrap (bt s (p : Int) - 48) = bt s (p : Int) - 48 := by rw [IntKind.wrap_i64]; omega
          have HN := Aside0.mk (HR.out.next (p + 1))
          have hlen : (L ++ cd s p).length < 16777216 := by rw [List.length_append, cd_length]; omega
          go_wp2_with (fail)
          refine (write_calls w0 _ _ g _ (bt s (p : Int) - 48) HN.out.below hg HN.out.pen (by omega) hlen).mono ?_
          rintro e w3 ⟨rfl, p1, p2, p3⟩
          have HN3 := Aside0.mk (HN.out.step p1 p2 p3)
          clear p1 p2 p3
          go_wp2
          go_roundw
          case rel => exact ⟨p + 1, ⟨by have := HN3.out; rw [List.append_assoc] at this; exact this⟩, by omega⟩
          case measure => rw [iterPos_of HN3.out.iter, iterPos_of HR.out.iter]; omega
        · have hnx := fun ty => Lib.run_next_end_at (P := Try.prog) wr V.heap.size s p ty hit hps
          obtain rfl : p = s.size := by omega
          go_wp2
          go_ret
          have hd := HR.out.done
          rw [← hV] at hd
          exact ⟨rfl, hd.drew⟩

set_option maxHeartbeats 4000000 in
set_option maxRecDepth 100000 in
/-- Code of a text that has another sign. -/
theorem code_form {base : Nat} {ok : Nat → Prop} {g : Nat} {L : List Int} {W : World} (s : ByteArray) (hP : PenS base ok g L W) (hs : ¬ BinT s) (hn : s.size ≤ 1000) :
    Calls Try.prog 51 #[.pointer (some ⟨g, 0, none⟩), .string s] W fun e W' => e = .returned (.int .i64 14) ∧ Drawn0 W W' := by
  obtain ⟨q, hq, hq1, hq2⟩ : ∃ q : Nat, q < s.size ∧ bt s (q : Int) ≠ 48 ∧ bt s (q : Int) ≠ 49 := by
    refine Classical.byContradiction fun hn => hs fun i hi => ?_
    by_cases h1 : bt s (i : Int) = 48
    · exact .inl h1
    · by_cases h2 : bt s (i : Int) = 49
      · exact .inr h2
      · exact absurd ⟨i, hi, h1, h2⟩ hn
  have HP := Aside0.mk hP
  clear hP hs
  go_enter Try.func51, Try.ntmps51
  go_wp2_with (fail)
  refine (none_calls HP.out).mono ?_
  rintro e w' ⟨rfl, rfl⟩
  go_wp2
  go_loopw [13] (fun v13 wr => ∃ (i : Nat), v13 = .int .i64 (i : Int) ∧ i ≤ q ∧ Drawn0 W wr) (fun v13 _ => s.size - (intOf v13).toNat)
  case atStart => exact ⟨0, rfl, by omega, Drawn0.refl _⟩
  case round =>
    obtain ⟨i, rfl, hi, ⟨m, rfl⟩⟩ := hrel
    have hlt : (i : Int) < (s.size : Int) := by omega
    have hd : decide ((i : Int) < (s.size : Int)) = true := decide_eq_true hlt
    have p4 : 0 ≤ (i : Int) := by omega
    have q4 : (i : Int) < (s.size : Int) := hlt
    have hx4 : ∀ h : i < s.size, ((s[i]'h).toNat : Int) = bt s (i : Int) := fun h => by simp [bt, h]
    have hw1 : IntKind.i64.wrap ((i : Int) + 1) = ((i + 1 : Nat) : Int) := by rw [IntKind.wrap_i64]; omega
    have hiq : (bt s (i : Int) = 48 ∨ bt s (i : Int) = 49) → i ≠ q := by rintro h rfl; omega
    have Hq := Aside0.mk hiq
    clear hiq hq1 hq2
    replace p4 := eq_true p4
    replace q4 := eq_true q4
    by_cases h48 : bt s (i : Int) = 48
    · have hb1 : (bt s (i : Int) != 48) = false := bne_eq_false_iff_eq.mpr h48
      have hne := Hq.out (.inl h48)
      go_wp2
      go_roundw
      case rel => exact ⟨i + 1, rfl, by omega, by repeat (first | exact Drawn0.refl _ | apply Drawn0.step)⟩
      case measure => simp [intOf]; omega
    · have hb1 : (bt s (i : Int) != 48) = true := bne_iff_ne.mpr (by omega)
      by_cases h49 : bt s (i : Int) = 49
      · have hb2 : (bt s (i : Int) != 49) = false := bne_eq_false_iff_eq.mpr h49
        have hne := Hq.out (.inr h49)
        go_wp2
        go_roundw
        case rel => exact ⟨i + 1, rfl, by omega, by repeat (first | exact Drawn0.refl _ | apply Drawn0.step)⟩
        case measure => simp [intOf]; omega
      · have hb2 : (bt s (i : Int) != 49) = true := bne_iff_ne.mpr (by omega)
        go_wp2
        go_ret
        exact ⟨rfl, by repeat (first | exact Drawn0.refl _ | apply Drawn0.step)⟩
theorem code_nil (s : ByteArray) (W : World) : Calls Try.prog 51 #[.pointer none, .string s] W fun e W' => e = .returned (.int .i64 1) ∧ W = W' := by
  go_enter Try.func51, Try.ntmps51
  go_wp2_with (fail)
  refine (none_nil W).mono ?_
  rintro e w' ⟨rfl, rfl⟩
  go_wp2
  go_ret
  exact ⟨rfl, rfl⟩
theorem code_zero (s : ByteArray) (W : World) (g : Nat) (hb : W.heap[g]? = some (.cells #[.slice none 0 0, .int .i64 0, .bool false] 71 (0, 0))) : Calls Try.prog 51 #[.pointer (some ⟨g, 0, none⟩), .string s] W fun e W' => e = .returned (.int .i64 1) ∧ W = W' := by
  have Hb := Aside0.mk hb
  clear hb
  go_enter Try.func51, Try.ntmps51
  go_wp2_with (fail)
  refine (none_zero W g Hb.out).mono ?_
  rintro e w' ⟨rfl, rfl⟩
  go_wp2
  go_ret
  exact ⟨rfl, rfl⟩
theorem bytes_nil (W : World) : Calls Try.prog 53 #[.pointer none] W fun e W' => e = .returned (.slice none 0 0) ∧ W = W' := by
  go_enter Try.func53, Try.ntmps53
  go_wp2_with (fail)
  refine (none_nil W).mono ?_
  rintro e w' ⟨rfl, rfl⟩
  go_wp2
  go_ret
  exact ⟨rfl, rfl⟩
theorem bytes_zero (W : World) (g : Nat) (hb : W.heap[g]? = some (.cells #[.slice none 0 0, .int .i64 0, .bool false] 71 (0, 0))) : Calls Try.prog 53 #[.pointer (some ⟨g, 0, none⟩)] W fun e W' => e = .returned (.slice none 0 0) ∧ W = W' := by
  have Hb := Aside0.mk hb
  clear hb
  go_enter Try.func53, Try.ntmps53
  go_wp2_with (fail)
  refine (none_zero W g Hb.out).mono ?_
  rintro e w' ⟨rfl, rfl⟩
  go_wp2
  go_ret
  exact ⟨rfl, rfl⟩
end Go.Proofs.Ytjbpcffmeaadeaa.Pp
