import Derived.Test.YtjbpcffmeaadeaaM9
import Derived.Test.YtjbpcffmeaadeaaP7
/- Acts: what a pen does with one, and that what it wrote is read back. -/
namespace Go.Proofs.Ytjbpcffmeaadeaa.Pp
open Go.RowKit Go.Proofs.Ytjbpcffmeaadeaa.Pr Go.Proofs.YtjbpcffmeaadeaaW.PrintWords Go.Proofs.YtjbpcffmeaadeaaW.PrintLast Go.Proofs.YtjbpcffmeaadeaaW.PrintMore

/-- A number that fits. -/
def okN (n m : Int) : Prop := 0 ≤ m ∧ m ≤ 32 ∧ 0 ≤ n ∧ n / 2 ^ m.toNat = 0
instance (n m : Int) : Decidable (okN n m) := by unfold okN; infer_instance
instance (s : ByteArray) : Decidable (BinT s) := by unfold BinT; infer_instance
/-- An act that a pen takes, and the bits of one. -/
def okA (x : S67) : Bool := if x.f0 then decide (BinT x.f3) else decide (okN x.f1 x.f2)
def bitsA (x : S67) : List Int := if x.f0 then cd x.f3 x.f3.size else pd x.f1 x.f2.toNat
def bitsOf (K : List S67) : List Int := K.flatMap bitsA

theorem bitsA_code {x : S67} (h : x.f0 = true) : bitsA x = cd x.f3 x.f3.size := by unfold bitsA; rw [if_pos h]
theorem bitsA_num {x : S67} (h : x.f0 = false) : bitsA x = pd x.f1 x.f2.toNat := by unfold bitsA; rw [if_neg (by rw [h]; decide)]
theorem okA_code {x : S67} (h : x.f0 = true) : okA x = true ↔ BinT x.f3 := by unfold okA; rw [if_pos h]; exact decide_eq_true_iff
theorem okA_num {x : S67} (h : x.f0 = false) : okA x = true ↔ okN x.f1 x.f2 := by unfold okA; rw [if_neg (by rw [h]; decide)]; exact decide_eq_true_iff
theorem bitsA_short {x : S67} (ho : okA x = true) (hs : x.f3.size ≤ 100) : (bitsA x).length ≤ 100 := by
  cases hf : x.f0 with
  | true => rw [bitsA_code hf, cd_length]; exact hs
  | false => rw [bitsA_num hf, pd_length]; have := ((okA_num hf).1 ho).2.1; omega
theorem bitsOf_snoc (K : List S67) (x : S67) : bitsOf (K ++ [x]) = bitsOf K ++ bitsA x := by simp [bitsOf]
theorem bitsOf_short : ∀ (K : List S67), (∀ x ∈ K, okA x = true ∧ x.f3.size ≤ 100) → (bitsOf K).length ≤ 100 * K.length
  | [], _ => by simp [bitsOf]
  | x :: K, h => by
    have h1 := bitsA_short (h x (by simp)).1 (h x (by simp)).2
    have h2 := bitsOf_short K (fun y hy => h y (by simp [hy]))
    simp only [bitsOf, List.flatMap_cons, List.length_append, List.length_cons] at h2 ⊢
    omega
theorem wf64 {n : Int} (h : (Lit.int .i64 n).wf = true) : -9223372036854775808 ≤ n ∧ n < 9223372036854775808 := by
  have e1 : IntKind.i64.min = -9223372036854775808 := by rfl
  have e2 : IntKind.i64.max = 9223372036854775807 := by rfl
  simp [Lit.wf] at h
  omega

/-- Put of any number. -/
theorem pn_any {w W : World} {g : Nat} {L : List Int} (n m : Int) (h : Pn w g L W) (hn : -9223372036854775808 ≤ n ∧ n < 9223372036854775808) (hl : L.length ≤ 1000000) :
    Calls Try.prog 50 #[.pointer (some ⟨g, 0, none⟩), .int .i64 n, .int .i64 m] W fun e W' => e = .returned (.int .i64 (if okN n m then 0 else 3)) ∧ Pn w g (if okN n m then L ++ pd n m.toNat else L) W' ∧ Same 5 71 W W' := by
  by_cases ho : okN n m
  · rw [if_pos ho, if_pos ho]
    obtain ⟨h0, h1, h2, h3⟩ := ho
    obtain ⟨j, rfl⟩ := Int.eq_ofNat_of_zero_le h0
    rw [show ((j : Int)).toNat = j from by omega] at h3 ⊢
    exact pn_put n j h (by omega) h2 h3 hn.2 (by omega)
  · rw [if_neg ho, if_neg ho]
    refine pn_range n m h hn ?_
    by_cases h1 : m < 0
    · exact .inl h1
    by_cases h2 : 32 < m
    · exact .inr (.inl h2)
    by_cases h3 : n < 0
    · exact .inr (.inr (.inl h3))
    have h4 : 0 ≤ n / 2 ^ m.toNat := Int.ediv_nonneg (by omega) (Int.le_of_lt (Int.pow_pos (by decide)))
    have h5 : n / 2 ^ m.toNat ≠ 0 := fun h5 => ho ⟨by omega, by omega, by omega, h5⟩
    exact .inr (.inr (.inr (by omega)))
/-- Code of any text. -/
theorem pn_text {w W : World} {g : Nat} {L : List Int} (s : ByteArray) (h : Pn w g L W) (hs : s.size ≤ 100) (hl : L.length ≤ 1000000) :
    Calls Try.prog 51 #[.pointer (some ⟨g, 0, none⟩), .string s] W fun e W' => e = .returned (.int .i64 (if BinT s then 0 else 14)) ∧ Pn w g (if BinT s then L ++ cd s s.size else L) W' ∧ Same 5 71 W W' := by
  by_cases ho : BinT s
  · rw [if_pos ho, if_pos ho]
    exact pn_code s h ho (by omega) (by omega)
  · rw [if_neg ho, if_neg ho]
    exact pn_form s h ho (by omega)

/-- What is answered to an act, and the acts taken behind it. -/
def errA (x : S67) : Int := if okA x then 0 else if x.f0 then 14 else 3
def outA (K : List S67) (x : S67) : List S67 := if okA x then K ++ [x] else K
theorem errA_ok {x : S67} (h : okA x = true) : errA x = 0 := by unfold errA; rw [if_pos h]
theorem errA_no {x : S67} (h : okA x = false) : errA x ≠ 0 := by unfold errA; rw [if_neg (by rw [h]; decide)]; split <;> decide
theorem outA_ok {K : List S67} {x : S67} (h : okA x = true) : outA K x = K ++ [x] := by unfold outA; rw [if_pos h]
theorem outA_no {K : List S67} {x : S67} (h : okA x = false) : outA K x = K := by unfold outA; rw [if_neg (by rw [h]; decide)]
theorem act_num {w W : World} {g : Nat} {K : List S67} (x : S67) (hf : x.f0 = false) (h : Pn w g (bitsOf K) W) (hn : -9223372036854775808 ≤ x.f1 ∧ x.f1 < 9223372036854775808) (hl : (bitsOf K).length ≤ 1000000) :
    Calls Try.prog 50 #[.pointer (some ⟨g, 0, none⟩), .int .i64 x.f1, .int .i64 x.f2] W fun e W' => ∃ er, e = .returned (.int .i64 er) ∧ Aside0 (er = errA x) ∧ Aside0 (Pn w g (bitsOf (outA K x)) W' ∧ Same 5 71 W W') := by
  refine (pn_any x.f1 x.f2 h hn hl).mono ?_
  rintro e W' ⟨h1, h2, h3⟩
  cases ho : okA x with
  | true =>
    have hk := (okA_num hf).1 ho
    rw [if_pos hk] at h1 h2
    exact ⟨0, h1, ⟨(errA_ok ho).symm⟩, ⟨by rw [outA_ok ho, bitsOf_snoc, bitsA_num hf]; exact h2, h3⟩⟩
  | false =>
    have hk : ¬ okN x.f1 x.f2 := fun hk => by rw [(okA_num hf).2 hk] at ho; cases ho
    rw [if_neg hk] at h1 h2
    exact ⟨3, h1, ⟨by unfold errA; rw [ho, hf]; rfl⟩, ⟨by rw [outA_no ho]; exact h2, h3⟩⟩
theorem act_text {w W : World} {g : Nat} {K : List S67} (x : S67) (hf : x.f0 = true) (h : Pn w g (bitsOf K) W) (hn : x.f3.size ≤ 100) (hl : (bitsOf K).length ≤ 1000000) :
    Calls Try.prog 51 #[.pointer (some ⟨g, 0, none⟩), .string x.f3] W fun e W' => ∃ er, e = .returned (.int .i64 er) ∧ Aside0 (er = errA x) ∧ Aside0 (Pn w g (bitsOf (outA K x)) W' ∧ Same 5 71 W W') := by
  refine (pn_text x.f3 h hn hl).mono ?_
  rintro e W' ⟨h1, h2, h3⟩
  cases ho : okA x with
  | true =>
    have hk := (okA_code hf).1 ho
    rw [if_pos hk] at h1 h2
    exact ⟨0, h1, ⟨(errA_ok ho).symm⟩, ⟨by rw [outA_ok ho, bitsOf_snoc, bitsA_code hf]; exact h2, h3⟩⟩
  | false =>
    have hk : ¬ BinT x.f3 := fun hk => by rw [(okA_code hf).2 hk] at ho; cases ho
    rw [if_neg hk] at h1 h2
    exact ⟨14, h1, ⟨by unfold errA; rw [ho, hf]; rfl⟩, ⟨by rw [outA_no ho]; exact h2, h3⟩⟩

/-! ### read back -/
theorem pd_num (b : List Int) (n : Int) (m : Nat) : ∀ i, (∀ t, t < m → bitB b (i + t) = (pd n m).getD t 0) → numB b i m = n % 2 ^ m := by
  induction m with
  | zero => intro i _; simp [numB, Int.emod_one]
  | succ m ih =>
    intro i h
    rw [numB_front]
    have h0 := h 0 (by omega)
    simp only [Nat.add_zero, pd, List.getD_cons_zero] at h0
    rw [h0, ih (i + 1) (fun t ht => by
      have := h (t + 1) (by omega)
      simp only [pd, List.getD_cons_succ] at this
      rw [show i + 1 + t = i + (t + 1) from by omega]
      exact this)]
    rw [mod_front]
theorem getD_mid (A M B : List Int) (t : Nat) (h : t < M.length) : ((A ++ M) ++ B).getD (A.length + t) 0 = M.getD t 0 := by
  rw [List.getD_eq_getElem?_getD, List.getElem?_append_left (by simp; omega), List.getElem?_append_right (by omega), show A.length + t - A.length = t from by omega, ← List.getD_eq_getElem?_getD]
theorem cd_get (s : ByteArray) (n j : Nat) (h : j < n) : (cd s n).getD j 0 = bt s (j : Int) - 48 := by
  induction n with
  | zero => omega
  | succ n ih =>
    simp only [cd]
    by_cases h1 : j < n
    · rw [List.getD_eq_getElem?_getD, List.getElem?_append_left (by rw [cd_length]; exact h1), ← List.getD_eq_getElem?_getD, ih h1]
    · obtain rfl : j = n := by omega
      rw [List.getD_eq_getElem?_getD, List.getElem?_append_right (by rw [cd_length]; omega), cd_length]
      simp
/-- A number that a pen put is read. -/
theorem back_num {A B bs : List Int} {n m : Int} (h : Packs ((A ++ pd n m.toNat) ++ B) bs) (ho : okN n m) : praxinoscopelaw01_reads.f 60 bs (A.length : Int) m n 0 = some true := by
  obtain ⟨h0, h1, h2, h3⟩ := ho
  obtain ⟨j, rfl⟩ := Int.eq_ofNat_of_zero_le h0
  rw [show ((j : Int)).toNat = j from by omega] at h h3
  have hl := h.len
  have hL : ((A ++ pd n j) ++ B).length = A.length + j + B.length := by simp [pd_length]; omega
  rw [reads_eq bs h.ok _ _ _ _ 60 (by decide), readP_in bs A.length j (by omega) (by omega)]
  rw [pd_num bs n j A.length (fun t ht => by rw [h.bit, hL, if_pos (by omega)]; exact getD_mid A (pd n j) B t (by rw [pd_length]; exact ht))]
  have hp : (0 : Int) < 2 ^ j := Int.pow_pos (by decide)
  have e1 := Int.mul_ediv_add_emod n (2 ^ j)
  rw [h3] at e1
  rw [show n % 2 ^ j = n from by omega]
  simp
/-- A digit that a pen wrote is read. -/
theorem back_code {A B bs : List Int} {s : ByteArray} (h : Packs ((A ++ cd s s.size) ++ B) bs) (j : Nat) (hj : j < s.size) : praxinoscopelaw01_reads.f 60 bs ((A.length + j : Nat) : Int) 1 (bt s (j : Int) - 48) 0 = some true := by
  have hl := h.len
  have hL : ((A ++ cd s s.size) ++ B).length = A.length + s.size + B.length := by simp [cd_length]; omega
  rw [reads_eq bs h.ok _ _ _ _ 60 (by decide), readP_in1 bs (A.length + j) (by omega), h.bit, hL, if_pos (by omega), getD_mid A (cd s s.size) B j (by rw [cd_length]; exact hj), cd_get s _ j hj]
  simp
/-- Noughts alone are behind. -/
theorem back_rest {L bs : List Int} (h : Packs L bs) : praxinoscopelaw01_reads.f 60 bs (L.length : Int) (8 * (bs.length : Int) - L.length) 0 0 = some true ∧ 0 ≤ 8 * (bs.length : Int) - L.length ∧ 8 * (bs.length : Int) - L.length < 8 := by
  have hl := h.len
  refine ⟨?_, by omega, by omega⟩
  have := readP_in bs L.length (8 * bs.length - L.length) (by omega) (by omega)
  rw [show ((8 * bs.length - L.length : Nat) : Int) = 8 * (bs.length : Int) - L.length from by omega] at this
  rw [reads_eq bs h.ok _ _ _ _ 60 (by decide), this, (numB_zero bs _ _).2 (fun j hj => by rw [h.bit, if_neg (by omega)])]
  simp
theorem bitsOf_at (K : List S67) (i : Nat) (h : i < K.length) : bitsOf K = (bitsOf (K.take i) ++ bitsA (K.getD i z67)) ++ bitsOf (K.drop (i + 1)) := by
  have e : K.getD i z67 = K[i] := by rw [List.getD_eq_getElem?_getD, List.getElem?_eq_getElem h, Option.getD_some]
  rw [e]
  have h1 : K = K.take i ++ (K[i] :: K.drop (i + 1)) := by rw [List.getElem_cons_drop, List.take_append_drop]
  refine (congrArg bitsOf h1).trans ?_
  unfold bitsOf
  rw [List.flatMap_append, List.flatMap_cons, List.append_assoc]
theorem bitsOf_take (K : List S67) (i : Nat) (h : i < K.length) : bitsOf (K.take (i + 1)) = bitsOf (K.take i) ++ bitsA (K.getD i z67) := by
  have e : K.getD i z67 = K[i] := by rw [List.getD_eq_getElem?_getD, List.getElem?_eq_getElem h, Option.getD_some]
  rw [e, List.take_succ_eq_append_getElem h, bitsOf_snoc]
end Go.Proofs.Ytjbpcffmeaadeaa.Pp
