import Derived.Test.YtjbpcffmeaadeaaP8
import Derived.Test.YtjbpcffmeaadeaaME
import Derived.Test.YtjbpcffmeaadeaaMA
import Derived.Test.YtjbpcffmeaadeaaHA
/- The walk of BitsBack, by hand. -/
namespace Go.Proofs.Ytjbpcffmeaadeaa.Pp
open Go.RowKit Go.Proofs.Ytjbpcffmeaadeaa.Pr Go.Proofs.YtjbpcffmeaadeaaW.PrintWords Go.Proofs.YtjbpcffmeaadeaaW.PrintLast Go.Proofs.YtjbpcffmeaadeaaW.PrintMore
set_option linter.unusedVariables false

theorem info67 : (Try.prog.info? 67).map (fun i => (i.zero, i.size, i.bytes)) = some (some (.agg #[.bool false, .int .i64 0, .int .i64 0, .string ⟨#[]⟩]), 4, 40) := by kernel_rfl
theorem k67E : k67.E = [] := rfl
theorem k67_ne (q : Nat) (h : q ∈ 67 :: k67.E) : q = 67 := by rw [k67E] at h; simpa using h
theorem hold {p : Prop} (h : Aside0 p) : p := h.out
/-- The cells of an act of a row. -/
theorem act_at {w : World} {A : Option Addr} {n : Nat} {xs : List S67} (h : Kd.C k67 w A n xs) (j : Nat) (hj : j < n) : ∃ ad , A = some ad ∧ w.cell? (ad.add (j * 4)) = some (.bool (xs.getD j z67).f0) ∧ w.cell? ⟨(ad.add (j * 4)).block, (ad.add (j * 4)).off + 1, none⟩ = some (.int .i64 (xs.getD j z67).f1) ∧ w.cell? ⟨(ad.add (j * 4)).block, (ad.add (j * 4)).off + 2, none⟩ = some (.int .i64 (xs.getD j z67).f2) ∧ w.cell? ⟨(ad.add (j * 4)).block, (ad.add (j * 4)).off + 3, none⟩ = some (.string (xs.getD j z67).f3) := by
  have := at_T67 h (j : Int) (by omega) (by omega)
  unfold rd_T67 at this
  rw [show ((j : Int)).toNat = j from by omega] at this
  exact this

/-- What BitsBack holds while it puts its acts: the pen, and the acts that it took. -/
structure KB (w : World) (g : Nat) (v : Value) (K0 K : List S67) (W : World) : Prop where
  pen : Pn w g (bitsOf K0) W
  row : Kd.R k67 67 W w.heap.size (fun _ => True) v K
  oks : ∀ x ∈ K, okA x = true ∧ x.f3.size ≤ 100

/-- What BitsBack holds while it reads back: the pen, the acts that it took, the bytes. -/
structure KC (w : World) (g : Nat) (K : List S67) (A : Option Addr) (c : Nat) (v : Value) (bs : List Int) (W : World) : Prop where
  pen : Pn w g (bitsOf K) W
  row : Kd.R k67 67 W w.heap.size (fun _ => True) (.slice A K.length c) K
  oks : ∀ x ∈ K, okA x = true ∧ x.f3.size ≤ 100
  bytes : Kd.R (Kd.int .u8) 5 W w.heap.size (fun _ => True) v bs
  packs : Packs (bitsOf K) bs
theorem KC.next {w : World} {g : Nat} {K : List S67} {A : Option Addr} {c : Nat} {v : Value} {bs : List Int} {W W' : World} (h : KC w g K A c v bs W) (hb : Below W.heap.size W W') : KC w g K A c v bs W' :=
  ⟨h.pen.next hb, Kd.R_below h.row hb, h.oks, Kd.R_below h.bytes hb, h.packs⟩

set_option maxHeartbeats 16000000 in
set_option maxRecDepth 100000 in
theorem acts_walk (A0 : Option Addr) (c0 : Nat) (l0 : List S67) (w : World) (r : Bool) (hC : Kd.C k67 w A0 l0.length l0) (hc0 : l0.length ≤ c0) (hl : praxinoscopelaw01_Long.f 200 l0 = some r)
    (hr : r = true ∨ r = false ∧ l0.length ≤ 60 ∧ ∀ j, j < l0.length → (l0.getD j z67).f3.size ≤ 100) (hwf : ∀ j, j < l0.length → -9223372036854775808 ≤ (l0.getD j z67).f1 ∧ (l0.getD j z67).f1 < 9223372036854775808) :
    Calls Try.prog 15 #[.slice A0 l0.length c0] w fun e w' => e = .returned (.bool true) ∧ Below w.heap.size w w' := by
  have hu67 := Try.underlying67
  have HC := Aside0.mk hC
  have Hl := Aside0.mk hl
  have Hwf := Aside0.mk hwf
  clear hC hl hwf
  go_enter Try.func15, Try.ntmps15
  go_wp2_with (fail)
  refine (known_calls w).mono ?_
  rintro e w1 ⟨rfl, hB⟩
  have HB := Aside0.mk hB
  clear hB
  go_wp2_with (fail)
  refine (pn_new HB.out).mono ?_
  rintro e w2 ⟨rfl, hpn, hB⟩
  have HP := Aside0.mk hpn
  clear hpn hB HB
  obtain ⟨g, hg⟩ : ∃ g, w1.heap.size = g := ⟨_, rfl⟩
  rw [hg] at HP
  go_wp2_with (fail)
  refine (praxinoscopelaw01_Long.calls 200 _ _ l0 r _ (Kd.C_below HC.out HP.out.below) hc0 Hl.out).mono ?_
  rintro e w3 ⟨rfl, hd⟩
  have m_ := Aside0.mk (HP.out.next (drawn_below hd)); clear HP hd; have HP := m_; clear m_
  rcases hr with rfl | ⟨rfl, h60, hsh⟩
  · go_wp2
    go_ret
    exact ⟨rfl, HP.out.below⟩
  · have Hsh := Aside0.mk hsh
    clear hsh Hl
    go_wp2
    go_loopw [5, 6] (fun v5 v6 wr => ∃ (j : Nat) (K : List S67), v6 = .int .i64 (j : Int) ∧ j ≤ l0.length ∧ K.length ≤ j ∧ Aside0 (KB w g v5 K K wr)) (fun _ v6 _ => l0.length - (intOf v6).toNat)
    case atStart => exact ⟨0, [], rfl, by omega, by simp, ⟨⟨by simpa [bitsOf] using HP.out, Kd.R_nil _ _ _ _ _, by simp⟩⟩⟩
    case round =>
      clear HP
      obtain ⟨j, K, rfl, hj, hK, HR⟩ := hrel
      by_cases hjm : (j : Int) < (l0.length : Int)
      · have hd : decide ((j : Int) < (l0.length : Int)) = true := decide_eq_true hjm
        have hwi : IntKind.i64.wrap ((j : Int) + 1) = ((j + 1 : Nat) : Int) := by rw [IntKind.wrap_i64]; omega
        obtain ⟨x, hx⟩ : ∃ x, l0.getD j z67 = x := ⟨_, rfl⟩
        obtain ⟨ad, rfl, hc0_, hc1_, hc2_, hc3_⟩ := act_at (Kd.C_below HC.out HR.out.pen.below) j (by omega)
        rw [hx] at hc0_ hc1_ hc2_ hc3_
        have Hx := Aside0.mk hx
        have hxs := Hsh.out j (by omega)
        have hxw := Hwf.out j (by omega)
        rw [hx] at hxs hxw
        have hbl := bitsOf_short K HR.out.oks
        clear hx
        have hfc : x.f0 = true ∨ x.f0 = false := by cases x.f0 <;> simp
        rcases hfc with hf | hf
        all_goals rw [hf] at hc0_
        all_goals go_wp2_with (fail)
        any_goals (refine (act_text x hf HR.out.pen hxs (by omega)).mono ?_; rintro e_ w4 ⟨er, rfl, her, hps⟩)
        any_goals (go_region_with (go_at_call 50; refine (act_num x hf (by repeat (first | exact HR.out.pen | apply Pn.drew | apply Pn.drew1)) hxw (by omega)).mono ?_; rintro e_ w4 ⟨er, rfl, her, hps⟩))
        all_goals
          have hs2 : Same 5 71 wr w4 := by first | exact hps.out.2 | exact (Same.of_below (below_drew (Below.refl _ _))).trans hps.out.2
          have HR2 := Aside0.mk (KB.mk (v := _) (K0 := outA K x) (K := K) hps.out.1 (hs2.row HR.out.row (fun q hq => by rw [k67_ne q hq]; decide)) HR.out.oks)
          clear hs2 hps hc0_ hc1_ hc2_ hc3_ hbl
          obtain ⟨ad2, he2, hc0_, hc1_, hc2_, hc3_⟩ := act_at (Kd.C_below HC.out HR2.out.pen.below) j (by omega)
          obtain rfl := Option.some.inj he2
          rw [Hx.out] at hc0_ hc1_ hc2_ hc3_
          rw [hf] at hc0_
          clear he2
          cases hok : okA x with
          | false =>
            have hne : (er == 0) = false := beq_eq_false_iff_ne.2 (by rw [her.out]; exact errA_no hok)
            rw [outA_no hok] at HR2
            go_wp2
            go_roundw
            case rel => exact ⟨j + 1, K, rfl, by omega, by omega, HR2⟩
            case measure => simp [intOf]; omega
          | true =>
            obtain rfl : er = 0 := by rw [her.out]; exact errA_ok hok
            rw [outA_ok hok] at HR2
            go_wp2_with ((with_reducible refine gate_builtin (b := .append) (xs := #[.tmp 53, .tmp 58]) rfl ?_); at_builtin; refine hold ?_)
            refine ⟨?_⟩
            refine Kd.R_append k67 (w0 := w) (W := w4) w.heap.size rfl (.tmp 53) (.tmp 58) 69 67 (.agg #[.bool false, .int .i64 0, .int .i64 0, .string ⟨#[]⟩]) 40 rfl Try.underlying69 info67 rfl (by decide) (by decide) _ K x [.bool _, .int .i64 x.f1, .int .i64 x.f2, .string x.f3] (fun _ => True) (fun _ => False) rfl rfl (by have h_ := k67_mkM w4 w.heap.size (fun _ => False) x; rw [hf] at h_; exact h_) (fun _ hk => hk.elim) (fun _ _ => trivial) HR2.out.row HR2.out.pen.below HR2.out.pen.below.size (by omega) ?_
            intro v1 w5 hR1 hB1 hg1 hat1
            have HS5 := Aside0.mk (show Same 67 67 w4 w5 from Kept.of_grown hg1 (Kept.refl _ _) (fun k hk => .inl (by obtain ⟨cells, hc⟩ := Kd.R_typed HR2.out.row k hk; exact ⟨cells, .inl hc⟩)))
            have HR3 := Aside0.mk (show KB w g v1 (K ++ [x]) (K ++ [x]) w5 from ⟨HR2.out.pen.same HS5.out hB1 (by decide) (by decide), hR1, fun y hy => by
              rcases List.mem_append.1 hy with h | h
              · exact HR2.out.oks y h
              · obtain rfl := List.mem_singleton.1 h; exact ⟨hok, hxs⟩⟩)
            clear hR1 hB1 hg1 hat1 HS5 HR2
            go_wp2
            go_roundw
            case rel => exact ⟨j + 1, K ++ [x], rfl, by omega, by simp; omega, HR3⟩
            case measure => simp [intOf]; omega
      · have hd : decide ((j : Int) < (l0.length : Int)) = false := decide_eq_false hjm
        obtain ⟨Ak, ck, ek⟩ := Kd.R_slice HR.out.row
        subst ek
        have hbl := bitsOf_short K HR.out.oks
        go_wp2_with (fail)
        refine (pn_bytes HR.out.pen (by omega)).mono ?_
        rintro e_ w8 ⟨v8, bs, rfl, hr1, hpk, hb8, hp⟩
        have HK := Aside0.mk (show KC w g K Ak ck v8 bs w8 from ⟨hp, Kd.R_below HR.out.row hb8, HR.out.oks, Kd.R_lower hr1 HR.out.pen.below.size, hpk⟩)
        clear hr1 hpk hb8 hp HR
        obtain ⟨A1, c1, rfl⟩ := Kd.R_slice HK.out.bytes
        go_wp2_with (fail)
        go_loopw [9, 10] (fun v9 v10 wr => ∃ (i : Nat) (T : List Int), v10 = .int .i64 (i : Int) ∧ i ≤ K.length ∧ v9 = .int .i64 (T.length : Int) ∧ Aside0 (bitsOf (K.take i) = T) ∧ T.length ≤ 100 * i ∧ Aside0 (KC w g K Ak ck (.slice A1 bs.length c1) bs wr)) (fun _ v10 _ => K.length - (intOf v10).toNat)
        case atStart => exact ⟨0, [], rfl, by omega, rfl, ⟨by simp [bitsOf]⟩, by simp, HK⟩
        case round =>
          clear HK
          obtain ⟨i, T, rfl, hi, rfl, HT, hTl, HR⟩ := hrel
          by_cases him : (i : Int) < (K.length : Int)
          · have hd2 : decide ((i : Int) < (K.length : Int)) = true := decide_eq_true him
            have hwi : IntKind.i64.wrap ((i : Int) + 1) = ((i + 1 : Nat) : Int) := by rw [IntKind.wrap_i64]; omega
            obtain ⟨x, hx⟩ : ∃ x, K.getD i z67 = x := ⟨_, rfl⟩
            obtain ⟨ad, rfl, hc0_, hc1_, hc2_, hc3_⟩ := act_at (Kd.R_reads' HR.out.row).2.2 i (by omega)
            rw [hx] at hc0_ hc1_ hc2_ hc3_
            have hxm : x ∈ K := by rw [← hx, List.getD_eq_getElem?_getD, List.getElem?_eq_getElem (by omega), Option.getD_some]; exact List.getElem_mem _
            have hxo := HR.out.oks x hxm
            have hat := bitsOf_at K i (by omega)
            have htk := bitsOf_take K i (by omega)
            rw [hx, HT.out] at hat htk
            have hpk := HR.out.packs
            rw [hat] at hpk
            have Hpk := Aside0.mk hpk
            have Htk := Aside0.mk htk
            have hbs := bitsA_short hxo.1 hxo.2
            have hxk := hxo.1
            have hxs := hxo.2
            have Hx := Aside0.mk hx
            have hTl2 : (T ++ bitsA x).length ≤ 100 * (i + 1) := by rw [List.length_append]; omega
            clear hat htk hpk hx hxo hxm
            have hfc : x.f0 = true ∨ x.f0 = false := by cases x.f0 <;> simp
            rcases hfc with hf | hf
            · rw [hf] at hc0_
              have hok := (okA_code hf).1 hxk
              have hpk2 := Hpk.out
              rw [bitsA_code hf] at hpk2 hTl2
              have Hrd := Aside0.mk (fun q hq => back_code hpk2 q hq)
              have Hok := Aside0.mk hok
              have hn : (T ++ cd x.f3 x.f3.size).length = T.length + x.f3.size := by rw [List.length_append, cd_length]
              clear hpk2 hbs hxk hok
              go_wp2_with (fail)
              obtain ⟨o9, ho9⟩ : ∃ o, Obj.cells #[Value.bool true, Value.int IntKind.i64 x.f1, Value.int IntKind.i64 x.f2, Value.string x.f3] 67 = o := ⟨_, rfl⟩
              have HR9 := Aside0.mk (HR.out.next (below_alloc (Below.refl _ _) o9))
              have hb9 := blk_new wr o9
              rw [← ho9] at hb9 HR9
              have Hb9 := Aside0.mk hb9
              clear hb9 ho9 o9 HR hc0_ hc1_ hc2_ hc3_
              go_loopw [9, 12] (fun v9 v12 wq => ∃ q : Nat, v12 = .int .i64 (q : Int) ∧ q ≤ x.f3.size ∧ v9 = .int .i64 ((T.length : Int) + (q : Int)) ∧ Aside0 (KC w g K (some ad) ck (.slice A1 bs.length c1) bs wq) ∧ Aside0 (wq.heap[wr.heap.size]? = some (.cells #[.bool true, .int .i64 x.f1, .int .i64 x.f2, .string x.f3] 67 (0, 0)))) (fun _ v12 _ => x.f3.size - (intOf v12).toNat)
              case atStart => exact ⟨0, rfl, by omega, by simp, HR9, Hb9⟩
              case round =>
                clear HR9 Hb9
                obtain ⟨q, rfl, hq, rfl, HQ, HB⟩ := hrel
                have hx0 := (blk_cell HB.out 0).trans rfl
                have hx3 := (blk_cell HB.out 3).trans rfl
                simp only [List.getElem?_toArray, List.getElem?_cons_zero, List.getElem?_cons_succ] at hx0 hx3
                by_cases hqm : (q : Int) < (x.f3.size : Int)
                · have hdq : decide ((q : Int) < (x.f3.size : Int)) = true := decide_eq_true hqm
                  have hwq : IntKind.i64.wrap ((q : Int) + 1) = ((q + 1 : Nat) : Int) := by rw [IntKind.wrap_i64]; omega
                  have hwt : IntKind.i64.wrap ((T.length : Int) + (q : Int) + 1) = (T.length : Int) + ((q + 1 : Nat) : Int) := by rw [IntKind.wrap_i64]; omega
                  have p4 : 0 ≤ (q : Int) := by omega
                  have q4 : (q : Int) < (x.f3.size : Int) := hqm
                  have hx4 : ∀ h : q < x.f3.size, ((x.f3[q]'h).toNat : Int) = bt x.f3 (q : Int) := fun h => by simp [bt, h]
                  replace p4 := eq_true p4
                  replace q4 := eq_true q4
                  have hbt := Hok.out q (by omega)
                  have hwb : IntKind.i64.wrap (bt x.f3 (q : Int)) = bt x.f3 (q : Int) := by rw [IntKind.wrap_i64]; omega
                  have hwb2 : IntKind.i64.wrap (bt x.f3 (q : Int) - 48) = bt x.f3 (q : Int) - 48 := by rw [IntKind.wrap_i64]; omega
                  have hrd := Hrd.out q (by omega)
                  rw [show ((T.length + q : Nat) : Int) = (T.length : Int) + (q : Int) from by omega] at hrd
                  have Hrd2 := Aside0.mk hrd
                  clear hrd hbt
                  go_wp2_with (fail)
                  refine (praxinoscopelaw01_reads.calls 60 A1 c1 bs _ 1 _ 0 true _ (Kd.R_reads' HQ.out.bytes).2.2 (Kd.R_reads' HQ.out.bytes).2.1 Hrd2.out).mono ?_
                  rintro e_ w10 ⟨rfl, hdr⟩
                  have HQ2 := Aside0.mk (HQ.out.next (drawn_below hdr))
                  have HB2 := Aside0.mk (blk_below HB.out (drawn_below hdr))
                  clear hdr HQ HB hx0 hx3
                  go_wp2
                  go_roundw
                  case rel => exact ⟨q + 1, rfl, by omega, rfl, HQ2, HB2⟩
                  case measure => simp [intOf]; omega
                · have hdq : decide ((q : Int) < (x.f3.size : Int)) = false := decide_eq_false hqm
                  obtain rfl : q = x.f3.size := by omega
                  go_wp2
                  go_roundw
                  case rel => exact ⟨i + 1, T ++ cd x.f3 x.f3.size, rfl, by omega, by rw [hn]; rfl, ⟨by have := Htk.out; rw [bitsA_code hf] at this; exact this⟩, hTl2, HQ⟩
                  case measure => simp [intOf]; omega
            · rw [hf] at hc0_
              have hok := (okA_num hf).1 hxk
              have hpk2 := Hpk.out
              rw [bitsA_num hf] at hpk2 hTl2
              have Hrd := Aside0.mk (back_num hpk2 hok)
              have hn : ((T ++ pd x.f1 x.f2.toNat).length : Int) = (T.length : Int) + x.f2 := by rw [List.length_append, pd_length]; have := hok.1; omega
              have hwn : IntKind.i64.wrap ((T.length : Int) + x.f2) = (T.length : Int) + x.f2 := by rw [IntKind.wrap_i64]; have := hok.1; have := hok.2.1; omega
              clear hpk2 hbs hxk hok
              go_wp2_with (fail)
              obtain ⟨o9, ho9⟩ : ∃ o, Obj.cells #[Value.bool false, Value.int IntKind.i64 x.f1, Value.int IntKind.i64 x.f2, Value.string x.f3] 67 = o := ⟨_, rfl⟩
              have HR9 := Aside0.mk (HR.out.next (below_alloc (Below.refl _ _) o9))
              have hb9 := blk_new wr o9
              rw [← ho9] at hb9 HR9
              have Hb9 := Aside0.mk hb9
              clear hb9 ho9 o9 HR hc0_ hc1_ hc2_ hc3_
              refine (praxinoscopelaw01_reads.calls 60 A1 c1 bs (T.length : Int) x.f2 x.f1 0 true _ (Kd.R_reads' HR9.out.bytes).2.2 (Kd.R_reads' HR9.out.bytes).2.1 Hrd.out).mono ?_
              rintro e_ w10 ⟨rfl, hdr⟩
              have HR10 := Aside0.mk (HR9.out.next (drawn_below hdr))
              have hb10 := blk_below Hb9.out (drawn_below hdr)
              have hx0 : w10.cell? ⟨wr.heap.size, 0, none⟩ = some (.bool false) := (blk_cell hb10 0).trans rfl
              have hx2 : w10.cell? ⟨wr.heap.size, 2, none⟩ = some (.int .i64 x.f2) := (blk_cell hb10 2).trans rfl
              clear hdr HR9 Hb9 hb10 Hrd
              go_wp2_with (fail)
              go_loopw [9, 12] (fun v9 v12 wq => v9 = .int .i64 ((T.length : Int) + x.f2) ∧ v12 = .int .i64 0 ∧ wq = w10) (fun _ _ _ => 0)
              case atStart => exact ⟨rfl, rfl, rfl⟩
              case round =>
                obtain ⟨rfl, rfl, rfl⟩ := hrel
                go_wp2
                go_roundw
                case rel => exact ⟨i + 1, T ++ pd x.f1 x.f2.toNat, rfl, by omega, by rw [hn], ⟨by have := Htk.out; rw [bitsA_num hf] at this; exact this⟩, hTl2, HR10⟩
                case measure => simp [intOf]; omega
          · have hd2 : decide ((i : Int) < (K.length : Int)) = false := decide_eq_false him
            obtain rfl : i = K.length := by omega
            have hTK := HT.out
            rw [List.take_length] at hTK
            subst hTK
            obtain ⟨hb1, hb2, hb3⟩ := back_rest HR.out.packs
            have Hrd := Aside0.mk hb1
            have hcnt : bits_Count.f bs = some (8 * (bs.length : Int)) := count_eq bs HR.out.packs.ok
            have Hcnt := Aside0.mk hcnt
            have hbn := HR.out.packs.ok.1
            have hpl := fun V (h : Pn w g (bitsOf K) V) => pn_len h
            obtain ⟨N, hN⟩ : ∃ N, (bitsOf K).length = N := ⟨_, rfl⟩
            rw [hN] at hb2 hb3 Hrd hpl
            have Hpl := Aside0.mk hpl
            have hwl : IntKind.i64.wrap (8 * (bs.length : Int) - N) = 8 * (bs.length : Int) - N := by rw [IntKind.wrap_i64]; omega
            have hge : decide (8 * (bs.length : Int) - (N : Int) ≥ 0) = true := decide_eq_true (by omega)
            have hge' : decide (0 ≤ 8 * (bs.length : Int) - (N : Int)) = true := decide_eq_true (by omega)
            have hlt8 : decide (8 * (bs.length : Int) - (N : Int) < 8) = true := decide_eq_true hb3
            clear hb1 hcnt hpl HT
            go_wp2_with (fail)
            refine (bits_Count.calls A1 c1 bs _ _ (Kd.R_reads' HR.out.bytes).2.2 (Kd.R_reads' HR.out.bytes).2.1 Hcnt.out).mono ?_
            rintro e_ w10 ⟨rfl, hdr⟩
            have HR2 := Aside0.mk (HR.out.next (drawn_below hdr))
            clear hdr HR
            go_wp2_with (fail)
            refine (Hpl.out _ HR2.out.pen).mono ?_
            rintro e_ w11 ⟨rfl, rfl⟩
            go_wp2_with (fail)
            refine (praxinoscopelaw01_reads.calls 60 A1 c1 bs _ _ 0 0 true _ (Kd.R_reads' HR2.out.bytes).2.2 (Kd.R_reads' HR2.out.bytes).2.1 Hrd.out).mono ?_
            rintro e_ w12 ⟨rfl, hdr⟩
            have HR3 := Aside0.mk (HR2.out.next (drawn_below hdr))
            clear hdr HR2
            go_wp2
            go_ret
            exact ⟨rfl, HR3.out.pen.below⟩

theorem bitsBack_walk (A : Option Addr) (cap : Nat) (xs : List S67) (w : World) (hc : xs.length ≤ cap) (hC : Kd.C k67 w A xs.length xs) (hm : xs.length ≤ maxLen) (hw : ∀ j, j < xs.length → (Lit.int .i64 (xs.getD j z67).f1).wf = true) :
    Calls Try.prog 15 #[.slice A xs.length cap] w fun e w' => e = .returned (.bool true) ∧ Below w.heap.size w w' := by
  have : maxLen ≤ 9223372036854775807 := by decide
  obtain ⟨r, hr, hr2⟩ := long_f xs (by omega)
  exact acts_walk A cap xs w r hC hc hr hr2 (fun j hj => wf64 (hw j hj))
end Go.Proofs.Ytjbpcffmeaadeaa.Pp
