import Derived.Test.YtjbpcffmeaadeaaH92
import Derived.OwnWalkIn
/- The contract of picture.Get, walked by hand. -/
namespace Go.Proofs.Ytjbpcffmeaadeaa.Pr
open Go.RowKit Go.Shelf Go.Proofs.YtjbpcffmeaadeaaW.PrintWords Go.Proofs.YtjbpcffmeaadeaaW.PrintLast Go.Proofs.YtjbpcffmeaadeaaW.PrintMore

/-- What picture.Get answers: the time, the type, the spare bytes, how many bits, what went wrong. -/
def getP (l : List Int) (a : Int) : Int × Int × List Int × Int × Int :=
  if a < 0 then (0, 0, [], 0, 3) else
  if (spP l 34 [] (takeP l (takeP l a 0 5).2.1 (takeP l a 0 5).2.2 6).2.1 (takeP l (takeP l a 0 5).2.1 (takeP l a 0 5).2.2 6).2.2).2.2 = 0 then
    ((takeP l a 0 5).1, (takeP l (takeP l a 0 5).2.1 (takeP l a 0 5).2.2 6).1, (spP l 34 [] (takeP l (takeP l a 0 5).2.1 (takeP l a 0 5).2.2 6).2.1 (takeP l (takeP l a 0 5).2.1 (takeP l a 0 5).2.2 6).2.2).1,
      IntKind.i64.wrap ((spP l 34 [] (takeP l (takeP l a 0 5).2.1 (takeP l a 0 5).2.2 6).2.1 (takeP l (takeP l a 0 5).2.1 (takeP l a 0 5).2.2 6).2.2).2.1 - a), 0)
  else (0, 0, [], 0, (spP l 34 [] (takeP l (takeP l a 0 5).2.1 (takeP l a 0 5).2.2 6).2.1 (takeP l (takeP l a 0 5).2.1 (takeP l a 0 5).2.2 6).2.2).2.2)
theorem getP_of {l : List Int} {a t a1 b1 ty a2 b2 : Int} {s : List Int} {a3 b3 : Int} (ha : 0 ≤ a) (h1 : takeP l a 0 5 = (t, a1, b1)) (h2 : takeP l a1 b1 6 = (ty, a2, b2)) (h3 : spP l 34 [] a2 b2 = (s, a3, b3)) :
    getP l a = if b3 = 0 then (t, ty, s, IntKind.i64.wrap (a3 - a), 0) else (0, 0, [], 0, b3) := by
  unfold getP
  rw [if_neg (by omega), h1]
  simp only [h2, h3]

set_option maxHeartbeats 1000000 in
theorem spare_calls (C : Nat) (w : World) :
    Calls Try.prog 76 #[.pointer (some ⟨C, 0, none⟩)] w fun e w' => e = .returned (.func (.func 92) #[] #[.pointer (some ⟨w.heap.size, 0, none⟩)]) ∧ w.alloc (.cells #[.pointer (some ⟨C, 0, none⟩)] 89) = w' := by
  go_enter Try.func76, Try.ntmps76
  go_wp2
  go_ret
  exact ⟨rfl, rfl⟩

/-- What lies in Get's own blocks: N the result's, N + 1 the cursor's, N + 2 the header's, N + 3 the box of the cursor's pointer. -/
structure GI (w : World) (A0 : Option Addr) (c0 : Nat) (l0 : List Int) (t ty : Int) (acc : List Int) (a b : Int) (W : World) : Prop where
  below : Below w.heap.size w W
  b0 : W.heap[w.heap.size]? = some (.cells #[.int .i64 0, .int .i64 0, .slice none 0 0] 24 (0, 0))
  b1 : Cur (w.heap.size + 1) A0 l0.length c0 a b W
  b2 : ∃ v, W.heap[w.heap.size + 2]? = some (.cells #[.int .i64 t, .int .i64 ty, v] 24 (0, 0)) ∧ W.ownsRow w.heap.size 5 1 v acc.length (acc.map (Value.int .u8))
  b3 : Boxed W (w.heap.size + 3) 89 (.pointer (some ⟨w.heap.size + 1, 0, none⟩))

theorem own_slice {W : World} {base n : Nat} {e : TypeId} {size : Nat} {v : Value} {xs : List Value} (h : W.ownsRow base e size v n xs) : ∃ A c, v = .slice A n c := by
  rcases h.2 with ⟨rfl, rfl⟩ | ⟨g, cap, cur, rfl, _⟩
  · exact ⟨_, _, rfl⟩
  · exact ⟨_, _, rfl⟩
theorem own_putObj {W : World} {base n l : Nat} {e : TypeId} {size : Nat} {v : Value} {xs : List Value} {o o' : Obj} (h : W.ownsRow base e size v n xs) (hl : W.heap[l]? = some o) (ho : o.isCells = false) : (W.putObj l o').ownsRow base e size v n xs := by
  refine own_move h fun k hk => ?_
  rcases h.2 with ⟨rfl, _⟩ | ⟨g, cap, cur, rfl, _, hh, _⟩
  · cases hk
  · cases hk
    refine World.putObj_heap_other ?_
    rintro rfl
    rw [hh] at hl; cases hl; cases ho

theorem GI.putObj {w : World} {A0 : Option Addr} {c0 : Nat} {l0 : List Int} {t ty : Int} {acc : List Int} {a b : Int} {W : World} (h : GI w A0 c0 l0 t ty acc a b W) {l : Nat} {o : Obj} (o' : Obj) (hl : w.heap.size + 4 ≤ l) (hb : W.heap[l]? = some o) (ho : o.isCells = false) : GI w A0 c0 l0 t ty acc a b (W.putObj l o') := by
  obtain ⟨v, hv, hown⟩ := h.b2
  exact ⟨below_putObj h.below _ (by omega) hb, (World.putObj_heap_other (by omega)).trans h.b0, (World.putObj_heap_other (by omega)).trans h.b1, ⟨v, (World.putObj_heap_other (by omega)).trans hv, own_putObj hown hb ho⟩, boxed_putObj h.b3 _ (by omega)⟩
theorem GI.alloc {w : World} {A0 : Option Addr} {c0 : Nat} {l0 : List Int} {t ty : Int} {acc : List Int} {a b : Int} {W : World} (h : GI w A0 c0 l0 t ty acc a b W) (o : Obj) : GI w A0 c0 l0 t ty acc a b (W.alloc o) := by
  obtain ⟨v, hv, hown⟩ := h.b2
  exact ⟨below_alloc h.below o, blk_alloc h.b0 o, blk_alloc h.b1 o, ⟨v, blk_alloc hv o, hown.alloc o⟩, h.b3.alloc o⟩
theorem GI.turn {w : World} {A0 : Option Addr} {c0 : Nat} {l0 : List Int} {t ty : Int} {acc : List Int} {a b a' b' : Int} {W W' : World} (h : GI w A0 c0 l0 t ty acc a b W) (hk : Tk (w.heap.size + 1) W W') (hq : Cur (w.heap.size + 1) A0 l0.length c0 a' b' W') : GI w A0 c0 l0 t ty acc a' b' W' := by
  obtain ⟨v, hv, hown⟩ := h.b2
  refine ⟨hk.below _ _ (by omega) h.below, (hk.far _ (by omega)).trans h.b0, hq, ⟨v, (hk.far _ (by omega)).trans hv, own_move hown fun k hk' => hk.far k ?_⟩, (hk.far _ (by omega)).trans h.b3⟩
  rintro rfl
  exact own_ne hown h.b1 (by decide) hk'.symm

theorem reps_ints (acc : List Int) : Reps (fun (x : Int) cs => cs = [Value.int .u8 x]) 1 acc (acc.map (Value.int .u8)) := by
  refine ⟨by simp, fun j p hj => ?_⟩
  obtain ⟨hlt, rfl⟩ := List.getElem?_eq_some_iff.1 hj
  rw [Nat.mul_one, List.drop_eq_getElem_cons (by simpa using hlt)]
  simp
theorem R_of_own {W : World} {base : Nat} {v : Value} {acc : List Int} (h : W.ownsRow base 5 1 v acc.length (acc.map (Value.int .u8))) : Kd.R (Kd.int .u8) 5 W base (fun _ => True) v acc :=
  ⟨fun _ _ => trivial, _, h, reps_ints acc⟩

/-- The world in which Get ends. -/
theorem GI.fin {w : World} {A0 : Option Addr} {c0 : Nat} {l0 : List Int} {t ty : Int} {acc : List Int} {a b : Int} {W : World} (h : GI w A0 c0 l0 t ty acc a b W) {D : Nat} (hD : W.heap[D]? = some (.deferred (some []))) (hle : w.heap.size + 4 ≤ D) {v : Value} (hown : W.ownsRow w.heap.size 5 1 v acc.length (acc.map (Value.int .u8))) (x y z : Value) :
    let V := (((W.setCell ⟨w.heap.size, 0, none⟩ x).setCell ⟨w.heap.size, 1, none⟩ y).setCell ⟨w.heap.size, 2, none⟩ z).drew
    V.heap[D]? = some (.deferred (some [])) ∧ Below w.heap.size w (V.putObj D (.deferred none)) ∧ (V.putObj D (.deferred none)).heap[w.heap.size]? = some (.cells #[x, y, z] 24 (0, 0)) ∧ (V.putObj D (.deferred none)).ownsRow w.heap.size 5 1 v acc.length (acc.map (Value.int .u8)) := by
  intro V
  have k1 : V.heap[D]? = some (.deferred (some [])) := (((KeepsOthers.setCell W _ _).trans (KeepsOthers.setCell _ _ _)).trans (KeepsOthers.setCell _ _ _)).same D _ hD rfl
  have k2 : V.heap[w.heap.size]? = some (.cells #[x, y, z] 24 (0, 0)) := blk_put (blk_put (blk_put h.b0 0 _ rfl) 1 _ rfl) 2 _ rfl
  have k3 : V.ownsRow w.heap.size 5 1 v acc.length (acc.map (Value.int .u8)) := own_move hown fun k hk => by
    have hne : k ≠ w.heap.size := by rintro rfl; exact own_ne hown h.b0 (by decide) hk.symm
    exact ((Below.heap_setCell _ _ _ k hne).trans (Below.heap_setCell _ _ _ k hne)).trans (Below.heap_setCell _ _ _ k hne)
  have k4 : Below w.heap.size w V := below_drew (((h.below.setCell (p := ⟨w.heap.size, 0, none⟩) (by simp) _).setCell (p := ⟨w.heap.size, 1, none⟩) (by simp) _).setCell (p := ⟨w.heap.size, 2, none⟩) (by simp) _)
  exact ⟨k1, below_putObj k4 _ (by omega) k1, (World.putObj_heap_other (by omega)).trans k2, own_putObj k3 k1 rfl⟩

/-- Only the normal way out. -/
def onlyN (K : Act → World → Prop) : Exit → Act → World → Prop
  | .normal, a, w => K a w
  | _, _, _ => False
theorem wpIn_onlyN {c : Code} {K : Act → World → Prop} {Q : Exit → Act → World → Prop} {a : Act} {w : World} (h : c.wpIn Fence.wide 0 Try.prog (onlyN K) a w) : c.wpIn Fence.wide 0 Try.prog (Exit.then K Q) a w := by
  refine wpIn_mono h ?_
  intro e a w h
  cases e <;> first | exact h | exact h.elim
attribute [local go_sem] Oper.semAt_some wide_fn wide_depth

set_option maxRecDepth 100000 in
set_option maxHeartbeats 2000000 in
theorem Get_in (A0 : Option Addr) (c0 : Nat) (l0 : List Int) (a : Int) (w : World) (hok : OkB l0) (hc0 : l0.length ≤ c0) (hC : Kd.C (Kd.int .u8) w A0 l0.length l0) (ha : 0 ≤ a ∧ a ≤ 9223372036854775807) :
    CallsIn Fence.wide 0 Try.prog 29 #[.slice A0 l0.length c0, .int .i64 a] w fun e w' => ∃ v2_ : Value, e = .returned (.tuple #[.agg #[.int .i64 (getP l0 a).1, .int .i64 (getP l0 a).2.1, v2_], .int .i64 (getP l0 a).2.2.2.1, .int .i64 (getP l0 a).2.2.2.2]) ∧ Kd.R (Kd.int .u8) 5 w' w.heap.size (fun _ => True) v2_ (getP l0 a).2.2.1 ∧ Below w.heap.size w w' := by
  obtain ⟨t, a1, b1, h1⟩ : ∃ t a1 b1, takeP l0 a 0 5 = (t, a1, b1) := ⟨_, _, _, rfl⟩
  obtain ⟨ty, a2, b2, h2⟩ : ∃ t a2 b2, takeP l0 a1 b1 6 = (t, a2, b2) := ⟨_, _, _, rfl⟩
  have H1 := Aside0.mk h1
  have H2 := Aside0.mk h2
  have Hok := Aside0.mk hok
  have HC := Aside0.mk hC
  clear hok hC h1 h2
  have ha0 : decide (a < 0) = false := decide_eq_false (by omega)
  refine callsIn_of_wp_marks Try.func29 rfl trivial ?_ rfl
  simp only [Try.ntmps29, List.size_toArray, List.length_cons, List.length_nil, Nat.reduceAdd, Nat.reduceSub, Array.replicate_succ, Array.replicate_zero, List.push_toArray, List.append_toArray, List.nil_append, List.cons_append]
  gi_wp2
  obtain ⟨W0, hW0⟩ : ∃ W0, (w.alloc (.cells #[.int .i64 0, .int .i64 0, .slice none 0 0] 24)).alloc (.cells #[.slice A0 l0.length c0, .int .i64 a, .int .i64 0] 91) = W0 := ⟨_, rfl⟩
  have hB0 : Below w.heap.size w W0 := by rw [← hW0]; exact below_alloc (below_alloc (Below.refl _ _) _) _
  have hz0 : W0.heap.size = w.heap.size + 2 := by rw [← hW0]; simp
  have hN0 : W0.heap[w.heap.size]? = some (.cells #[.int .i64 0, .int .i64 0, .slice none 0 0] 24 (0, 0)) := by rw [← hW0]; exact blk_alloc (blk_new _ _) _
  have hQ0 : Cur (w.heap.size + 1) A0 l0.length c0 a 0 W0 := by rw [← hW0]; have := blk_new (w.alloc (.cells #[.int .i64 0, .int .i64 0, .slice none 0 0] 24)) (.cells #[.slice A0 l0.length c0, .int .i64 a, .int .i64 0] 91); rw [World.size_alloc] at this; exact this
  rw [hW0]
  clear hW0
  refine (callsIn_wide.2 (take_calls' H1.out Hok.out hc0 (Kd.C_below HC.out hB0) hQ0)).mono ?_
  rintro e w1 ⟨rfl, hk1, hQ1⟩
  have hB1 := hk1.below _ _ (by omega) hB0
  have hz1 := hk1.size.trans hz0
  have hN1 := (hk1.far w.heap.size (by omega)).trans hN0
  clear hk1 hB0 hz0 hN0 hQ0 W0
  have HB1 := Aside0.mk hB1
  have HQ1 := Aside0.mk hQ1
  have HN1 := Aside0.mk hN1
  have Hz1 := Aside0.mk hz1
  clear hB1 hQ1 hN1 hz1
  gi_wp2_with (fail)
  refine (callsIn_wide.2 (take_calls' H2.out Hok.out hc0 (Kd.C_below HC.out HB1.out) HQ1.out)).mono ?_
  rintro e w2 ⟨rfl, hk2, hQ2⟩
  have HB2 := Aside0.mk (hk2.below _ _ (by omega) HB1.out)
  have hz2 := hk2.size.trans Hz1.out
  have HN2 := Aside0.mk ((hk2.far w.heap.size (by omega)).trans HN1.out)
  have HQ2 := Aside0.mk hQ2
  clear hk2 hQ2 HB1 HQ1 HN1 Hz1
  gi_wp2_with (gi_at_call 76; refine (callsIn_wide.2 (spare_calls _ _)).mono ?_; rintro e w' ⟨rfl, rfl⟩)
  simp only [Nat.add_assoc, Nat.reduceAdd]
  obtain ⟨W4, hW4⟩ : ∃ W4, (w2.alloc (.cells #[.int .i64 t, .int .i64 ty, .slice none 0 0] 24)).alloc (.cells #[.pointer (some ⟨w.heap.size + 1, 0, none⟩)] 89) = W4 := ⟨_, rfl⟩
  have hst : GI w A0 c0 l0 t ty [] a2 b2 W4 := by
    rw [← hW4]
    refine ⟨below_alloc (below_alloc HB2.out _) _, blk_alloc (blk_alloc HN2.out _) _, blk_alloc (blk_alloc HQ2.out _) _, ⟨.slice none 0 0, blk_alloc ?_ _, rfl, .inl ⟨rfl, rfl⟩⟩, ?_⟩
    · have := blk_new w2 (.cells #[.int .i64 t, .int .i64 ty, .slice none 0 0] 24); rw [hz2] at this; exact this
    · have := blk_new (w2.alloc (.cells #[.int .i64 t, .int .i64 ty, .slice none 0 0] 24)) (.cells #[.pointer (some ⟨w.heap.size + 1, 0, none⟩)] 89); rw [World.size_alloc, hz2] at this; exact this
  have hz4 : W4.heap.size = w.heap.size + 4 := by rw [← hW4]; simp [hz2]
  rw [hW4]
  have Hst := Aside0.mk hst
  have Hz4 := Aside0.mk hz4
  clear hst hW4 hz4 hz2 HN2 HQ2 HB2
  refine rangeMy (gf := 92) (lb := #[.pointer (some ⟨w.heap.size + 3, 0, none⟩)]) rfl (enters_of Try.func92 (by kernel_rfl) rfl)
    (encs := fun x : List Int × Int × Int => #[Value.int .u8 x.2.1])
    (fun x W => GI w A0 c0 l0 t ty x.1 x.2.2 0 W ∧ x.1.length < 32 ∧ 0 ≤ x.2.1 ∧ x.2.1 ≤ 255) (fun x W => GI w A0 c0 l0 t ty (x.1 ++ [x.2.1]) x.2.2 0 W) (fun W => GI w A0 c0 l0 t ty [] a2 b2 W)
    (fun W => ∃ acc a b, GI w A0 c0 l0 t ty acc a b W ∧ spP l0 34 [] a2 b2 = (acc, a, b)) (fun _ _ _ => False)
    (spare1_seq (w.heap.size + 3) (w.heap.size + 1) A0 c0 l0 a2 b2 Hok.out hc0 (GI w A0 c0 l0 t ty) (fun acc a b W h => ⟨h.b3, h.b1, Kd.C_below HC.out h.below⟩) (fun acc a b a' b' W W' h hk hq => h.turn hk hq))
    (fun _ => rfl) ?hI0 ?hI ?hI' ?hIe ?hIx Hst.out
    (fun x => { tmps := #[.slice A0 l0.length c0, .int .i64 a, undef, undef, .pointer (some ⟨w.heap.size, 0, none⟩), .int .i64 0, .int .i64 0, .pointer (some ⟨w.heap.size + 1, 0, none⟩), .pointer (some ⟨w.heap.size + 2, 0, none⟩), .int .u8 x.2.1, .int .i64 a, .bool false, undef, .slice A0 l0.length c0, .int .i64 a, .agg #[.slice A0 l0.length c0, .int .i64 a, .int .i64 0], .pointer (some ⟨w.heap.size + 1, 0, none⟩), .pointer (some ⟨w.heap.size + 1, 0, none⟩), .int .i64 t, .pointer (some ⟨w.heap.size + 1, 0, none⟩), .int .i64 ty, .agg #[.int .i64 t, .int .i64 ty, .slice none 0 0], .pointer (some ⟨w.heap.size + 1, 0, none⟩), .func (.func 92) #[] #[.pointer (some ⟨w.heap.size + 3, 0, none⟩)], .int .u8 x.2.1, undef, undef, undef, undef, undef, undef, undef, undef, undef, undef, undef, undef, undef, undef, undef, undef, undef, undef, undef, undef, undef, undef, undef], defers := [] }) ?assign ?body ?done ?stop
  case assign =>
    intro l x W K hK
    gi_wp2
    exact hK
  case hI0 => exact fun W o h => h.alloc o
  case hI => exact fun x W l o o' h hl hb ho => ⟨h.1.putObj o' (by have := Hz4.out; omega) hb ho, h.2⟩
  case hI' => exact fun x W l o o' h hl hb ho => h.putObj o' (by have := Hz4.out; omega) hb ho
  case hIe => exact fun W l o o' ⟨acc, a, b, h, he⟩ hl hb ho => ⟨acc, a, b, h.putObj o' (by have := Hz4.out; omega) hb ho, he⟩
  case hIx => exact fun c x W l o o' h _ _ _ => h.elim
  case stop => exact fun D c x W _ h _ => h.elim
  case body =>
    rintro l ⟨acc, y, a3⟩ W ⟨hG, hl32, hy⟩
    replace hl32 : acc.length < 32 := hl32
    replace hG : GI w A0 c0 l0 t ty acc a3 0 W := hG
    obtain ⟨v, hv, hown⟩ := hG.b2
    have hv2 : W.cell? ⟨w.heap.size + 2, 2, none⟩ = some v := (blk_cell hv 2).trans rfl
    have HG := Aside0.mk hG
    have Hv := Aside0.mk hv
    have Hown := Aside0.mk hown
    clear hG hv hown
    obtain ⟨i5, hi5, hzz⟩ := Option.map_eq_some_iff.1 info5
    simp only [Prod.mk.injEq] at hzz
    obtain ⟨hz5, hs5, hb5⟩ := hzz
    have hc5 : ∀ (j : Nat) (u : Value), [Value.int .u8 y][j]? = some u → (W.alloc (.cells #[.int .u8 y] 5)).cell? ((⟨W.heap.size, 0, none⟩ : Addr).add j) = some u := by
      simpa using World.news_of_block (cs := [Value.int .u8 y].toArray) (t := 5) (fr := (0, 0)) (heap_alloc_new W (.cells [Value.int .u8 y].toArray 5))
    gi_wp2_with (gi_at_builtin; refine wpListIn_append_own (W.alloc (.cells #[.int .u8 y] 5)) rfl (.tmp 26) (.tmp 28) 22 rfl w.heap.size 5 i5 (.int .u8 0) 1 1 Try.underlying22 hi5 hz5 hs5 hb5 rfl (by decide) v acc.length (acc.map (Value.int .u8)) rfl (Hown.out.alloc _) ⟨W.heap.size, 0, none⟩ 1 1 [.int .u8 y] rfl rfl hc5 (by simp [Value.oneCell']) (by simp only [maxLen]; omega) (by omega) (by have := HG.out.below.size; simp; omega) ?_; intro v' w' hown' hg' _; obtain ⟨Av, cv, rfl⟩ := own_slice hown'; have hbv := blk_grown (blk_alloc Hv.out (.cells #[.int .u8 y] 5)) hg' (own_ne Hown.out Hv.out (by decide)); have hfv := blk_frozen hbv 2; have hpv : w'.cell? ⟨w.heap.size + 2, 2, none⟩ = some v := (blk_cell hbv 2).trans rfl; have Hbv := Aside0.mk hbv; have Hown' := Aside0.mk hown'; have Hg' := Aside0.mk hg'; clear hbv hown' hg')
    have hkg : KeepsOthers W w' := ⟨by have := Hg'.out.size; simp at this; omega, fun k o ho hc => by
      have hlt := (Array.getElem?_eq_some_iff.1 ho).1
      refine (Hg'.out.block k (by simp; omega) ?_).trans ((Below.heap_alloc W _ k hlt).trans ho)
      intro he
      rcases Hown.out.2 with ⟨rfl, _⟩ | ⟨g, cap, cur, rfl, _, hh, _⟩
      · cases he
      · cases he; rw [hh] at ho; cases ho; cases hc⟩
    refine ⟨hkg.trans (KeepsOthers.setCell _ _ _), ?_⟩
    have hne : ∀ {k : Nat} {cs : Array Value} {t' : TypeId}, W.heap[k]? = some (.cells cs t' (0, 0)) → 5 ≠ t' → (w'.heap[k]? = some (.cells cs t' (0, 0))) := fun hk ht => blk_grown (blk_alloc hk _) Hg'.out (own_ne Hown.out hk ht)
    refine ⟨?_, ?_, ?_, ⟨_, blk_put Hbv.out 2 _ rfl, ?_⟩, ?_⟩
    · refine Below.setCell (p := ⟨w.heap.size + 2, 2, none⟩) ?_ (by simp) _
      exact (below_alloc HG.out.below _).grown Hg'.out (by have := HG.out.below.size; simp; omega) (own_base Hown.out)
    · exact blk_far (hne HG.out.b0 (by decide)) (by simp) _
    · exact blk_far (hne HG.out.b1 (by decide)) (by simp) _
    · refine own_move (w := w') ?_ fun k hk => Below.heap_setCell w' _ _ k ?_
      · have := Hown'.out; simpa using this
      · intro hk2; subst hk2; exact own_ne Hown'.out Hbv.out (by decide) hk.symm
    · exact blk_far (hne HG.out.b3 (by decide)) (by simp) _
  case done =>
    rintro D W hD ⟨acc, a3, b3, hG, hE⟩ hK
    have hgp := getP_of ha.1 H1.out H2.out hE
    clear hE
    obtain ⟨v, hv, hown⟩ := hG.b2
    obtain ⟨Av, cv, rfl⟩ := own_slice hown
    have hp0 : W.cell? ⟨w.heap.size, 0, none⟩ = some (.int .i64 0) := (blk_cell hG.b0 0).trans rfl
    have hp1 : W.cell? ⟨w.heap.size, 1, none⟩ = some (.int .i64 0) := (blk_cell hG.b0 1).trans rfl
    have hp2 : W.cell? ⟨w.heap.size, 2, none⟩ = some (.slice none 0 0) := (blk_cell hG.b0 2).trans rfl
    have hf0 := blk_frozen hG.b0 0
    have hf1 := blk_frozen hG.b0 1
    have hf2 := blk_frozen hG.b0 2
    have hq1 : W.cell? ⟨w.heap.size + 1, 1, none⟩ = some (.int .i64 a3) := (blk_cell hG.b1 1).trans rfl
    have hq2 : W.cell? ⟨w.heap.size + 1, 2, none⟩ = some (.int .i64 b3) := (blk_cell hG.b1 2).trans rfl
    have hr0 : W.cell? ⟨w.heap.size + 2, 0, none⟩ = some (.int .i64 t) := (blk_cell hv 0).trans rfl
    have hr1 : W.cell? ⟨w.heap.size + 2, 1, none⟩ = some (.int .i64 ty) := (blk_cell hv 1).trans rfl
    have hr2 : W.cell? ⟨w.heap.size + 2, 2, none⟩ = some (.slice Av acc.length cv) := (blk_cell hv 2).trans rfl
    have HG := Aside0.mk hG
    have Hv := Aside0.mk hv
    have Hown := Aside0.mk hown
    have HK := Aside0.mk hK
    have Hgp := Aside0.mk hgp
    clear hG hv hown hK hgp Hst
    by_cases hb : b3 = 0
    · subst hb
      have hbb : ((0 : Int) != 0) = false := rfl
      obtain ⟨k1, k2, k3, k4⟩ := HG.out.fin HK.out (by have := Hz4.out; omega) Hown.out (.int .i64 t) (.int .i64 ty) (.slice Av acc.length cv)
      have K1 := Aside0.mk k1
      have K2 := Aside0.mk k2
      have K3 := Aside0.mk k3
      have K4 := Aside0.mk k4
      clear k1 k2 k3 k4
      gi_wp2_with (fail)
      refine wpIn_onlyN ?_
      gi_region_with (fail)
      all_goals simp only [onlyN]
      all_goals gi_wp2
      all_goals
        have q0 := (blk_cell K3.out 0).trans rfl
        have q1 := (blk_cell K3.out 1).trans rfl
        have q2 := (blk_cell K3.out 2).trans rfl
        refine ⟨by simp, .inl ⟨_, _, rfl, run_takeDeferred K1.out, ?_⟩⟩
        refine ⟨.tuple #[.agg #[.int .i64 t, .int .i64 ty, .slice Av acc.length cv], .int .i64 (IntKind.i64.wrap (a3 - a)), .int .i64 0], ?_, .slice Av acc.length cv, ?_, ?_, K2.out⟩
        · simp [results, Try.results29, go_sem, q0, q1, q2]
        · rw [Hgp.out, if_pos trivial]
        · rw [Hgp.out, if_pos trivial]; exact R_of_own K4.out
    · have hbb : (b3 != 0) = true := bne_iff_ne.2 hb
      obtain ⟨k1, k2, k3, k4⟩ := HG.out.fin HK.out (by have := Hz4.out; omega) Hown.out (.int .i64 0) (.int .i64 0) (.slice none 0 0)
      have K1 := Aside0.mk k1
      have K2 := Aside0.mk k2
      have K3 := Aside0.mk k3
      clear k1 k2 k3 k4
      gi_wp2_with (fail)
      refine wpIn_onlyN ?_
      gi_region_with (fail)
      all_goals simp only [onlyN]
      all_goals gi_wp2
      all_goals
        have q0 := (blk_cell K3.out 0).trans rfl
        have q1 := (blk_cell K3.out 1).trans rfl
        have q2 := (blk_cell K3.out 2).trans rfl
        refine ⟨by simp, .inl ⟨_, _, rfl, run_takeDeferred K1.out, ?_⟩⟩
        refine ⟨.tuple #[.agg #[.int .i64 0, .int .i64 0, .slice none 0 0], .int .i64 0, .int .i64 b3], ?_, .slice none 0 0, ?_, ?_, K2.out⟩
        · simp [results, Try.results29, go_sem, q0, q1, q2]
        · rw [Hgp.out, if_neg hb]
        · rw [Hgp.out, if_neg hb]; exact ⟨fun _ _ => trivial, [], ⟨rfl, .inl ⟨rfl, rfl⟩⟩, Reps.none _ _⟩

set_option maxRecDepth 100000 in
set_option maxHeartbeats 2000000 in
theorem Get_neg (A0 : Option Addr) (len c0 : Nat) (a : Int) (w : World) (ha : a < 0) :
    Calls Try.prog 29 #[.slice A0 len c0, .int .i64 a] w fun e w' => ∃ v2_ : Value, e = .returned (.tuple #[.agg #[.int .i64 0, .int .i64 0, v2_], .int .i64 0, .int .i64 3]) ∧ Kd.R (Kd.int .u8) 5 w' w.heap.size (fun _ => True) v2_ [] ∧ Below w.heap.size w w' := by
  have hd : decide (a < 0) = true := decide_eq_true ha
  go_enter Try.func29, Try.ntmps29
  go_wp2
  exact bodyPost_ret (v := .tuple #[.agg #[.int .i64 0, .int .i64 0, .slice none 0 0], .int .i64 0, .int .i64 3]) (by simp [results, Try.results29, go_sem]) rfl ⟨_, rfl, ⟨fun _ _ => trivial, [], ⟨rfl, .inl ⟨rfl, rfl⟩⟩, Reps.none _ _⟩, by repeat (first | exact Below.refl _ _ | apply below_alloc)⟩

def picture_Get.f (l0 : List Int) (a1 : Int) : Option (Int × Int × List Int × Int × Int) := if OkB l0 ∧ in64 a1 then some (getP l0 a1) else none
theorem picture_Get.calls (A0 : Option Addr) (c0 : Nat) (l0 : List Int) (a1 : Int) (r1 : Int) (r2 : Int) (r3 : List Int) (r4 : Int) (r5 : Int) (w : World) (hr0 : Kd.C (Kd.int .u8) w A0 l0.length l0) (hc0 : l0.length ≤ c0) (h : picture_Get.f l0 a1 = some (r1, r2, r3, r4, r5)) :
    Calls Try.prog 29 #[.slice A0 l0.length c0, .int .i64 a1] w fun e w' => ∃ v2_ : Value, e = .returned (.tuple #[.agg #[.int .i64 r1, .int .i64 r2, v2_], .int .i64 r4, .int .i64 r5]) ∧ Kd.R (Kd.int .u8) 5 w' w.heap.size (fun _ => True) v2_ r3 ∧ Below w.heap.size w w' := by
  unfold picture_Get.f at h
  split at h
  · rename_i hc
    obtain ⟨hok, ha⟩ := hc
    have hp : getP l0 a1 = (r1, r2, r3, r4, r5) := Option.some.inj h
    by_cases hn : a1 < 0
    · have : getP l0 a1 = (0, 0, [], 0, 3) := by unfold getP; rw [if_pos hn]
      rw [this] at hp
      cases hp
      exact Get_neg A0 _ c0 a1 w hn
    · have := callsIn_wide.1 (Get_in A0 c0 l0 a1 w hok hc0 hr0 ⟨by omega, ha.2⟩)
      rw [hp] at this
      exact this
  · cases h
end Go.Proofs.Ytjbpcffmeaadeaa.Pr
