/-
  law: narrower, where each truth of the first trap is one of the second.
-/
import Derived.Test.YtoiajjdhgffdaaaFishL
namespace Go.Proofs.Ytoiajjdhgffdaaa
open Go Go.RowKit
set_option maxHeartbeats 4000000
set_option maxRecDepth 100000
theorem idxSpanRows {a : Option Addr} {n c b off : Nat} (ha : 0 < n → a = some ⟨b, off, none⟩) :
    ∀ (w : World) (i : Nat), i < n → (Instr.indexAt 52 (.slice a n c) (.int .i64 i)).run Try.prog w = .ok (.pointer (some ⟨b, off + i, none⟩)) w := by
  obtain ⟨i0, hi0⟩ := infoSpans
  have h := idxRule (P := Try.prog) 52 56 1 Try.underlying52 hi0 cellsSpans (c := c) ha
  simpa using h
theorem min_sub {t o : CT} (hs : ∀ y, Sat t (-1) y → Sat o (-1) y) {f : (Nat → Nat → Int) → Int} {m n : Int} (h : IsMin t (-1) f m) (k : IsMin o (-1) f n) : n ≤ m := by
  obtain ⟨_, y, h2, h3⟩ := h
  have := k.1 y (hs y h2)
  omega
theorem max_sub {t o : CT} (hs : ∀ y, Sat t (-1) y → Sat o (-1) y) {f : (Nat → Nat → Int) → Int} {m n : Int} (h : IsMax t (-1) f m) (k : IsMax o (-1) f n) : m ≤ n := by
  obtain ⟨_, y, h2, h3⟩ := h
  have := k.1 y (hs y h2)
  omega
theorem min_max {t : CT} {f : (Nat → Nat → Int) → Int} {m n : Int} (h : IsMin t (-1) f m) (k : IsMax t (-1) f n) : m ≤ n := by
  obtain ⟨h1, y, h2, h3⟩ := h
  have := k.1 y h2
  omega
structure Narrow (t o : CT) : Prop where
  fish : ∀ i c : Nat, i < t.T.toNat → c < t.C.toNat → fishLo o i c ≤ fishLo t i c ∧ fishLo t i c ≤ fishHi t i c ∧ fishHi t i c ≤ fishHi o i c
  whole : ∀ i : Nat, i < t.T.toNat → wholeLo o i ≤ wholeLo t i ∧ wholeLo t i ≤ wholeHi t i ∧ wholeHi t i ≤ wholeHi o i
  passed : ∀ i c : Nat, i + 1 < t.T.toNat → c < t.C.toNat → passLo o i c ≤ passLo t i c ∧ passLo t i c ≤ passHi t i c ∧ passHi t i c ≤ passHi o i c
theorem narrow_of {t o : CT} (hft : Fit t) (hfo : Fit o) (hC : o.C = t.C) (hT : o.T = t.T) (hone : ∃ y, Sat t (-1) y) (hs : ∀ y, Sat t (-1) y → Sat o (-1) y) : Narrow t o := by
  have et := exact_of_one hft hone
  have eo := exact_of_one hfo (by obtain ⟨y, hy⟩ := hone; exact ⟨y, hs y hy⟩)
  refine ⟨fun i c hi hc => ?_, fun i hi => ?_, fun i c hi hc => ?_⟩
  · exact ⟨min_sub hs (Fish_mn hft et i c hi hc) (Fish_mn hfo eo i c (by rw [hT]; exact hi) (by rw [hC]; exact hc)), min_max (Fish_mn hft et i c hi hc) (Fish_max hft et i c hi hc),
      max_sub hs (Fish_max hft et i c hi hc) (Fish_max hfo eo i c (by rw [hT]; exact hi) (by rw [hC]; exact hc))⟩
  · have a1 := Whole_min hfo eo i (by rw [hT]; exact hi)
    have a2 := Whole_max hfo eo i (by rw [hT]; exact hi)
    rw [hC] at a1 a2
    exact ⟨min_sub hs (Whole_min hft et i hi) a1, min_max (Whole_min hft et i hi) (Whole_max hft et i hi), max_sub hs (Whole_max hft et i hi) a2⟩
  · exact ⟨min_sub hs (Passed_min hft et i c hi hc) (Passed_min hfo eo i c (by rw [hT]; exact hi) (by rw [hC]; exact hc)), min_max (Passed_min hft et i c hi hc) (Passed_max hft et i c hi hc),
      max_sub hs (Passed_max hft et i c hi hc) (Passed_max hfo eo i c (by rw [hT]; exact hi) (by rw [hC]; exact hc))⟩
theorem inside_true (a b c d : Int) (w : World) (h : c ≤ a ∧ a ≤ b ∧ b ≤ d) : Calls Try.prog 43 #[.agg #[.int .i64 a, .int .i64 b], .agg #[.int .i64 c, .int .i64 d]] w fun e w' => e = .returned (.bool true) ∧ Bel w w' :=
  (inside_any a b c d w).mono fun e w' k => ⟨k.1.trans (by simp [h.1, h.2.1, h.2.2]), k.2⟩
theorem narrower_any (t o : CT) (v vo : Value) (w : World) (hv : TrapAt w v t) (hvo : TrapAt w vo o) (hval : validB t = true) (hvalo : validB o = true) (hC : o.C = t.C) (hT : o.T = t.T) (hone : ∃ y, Sat t (-1) y) (hsub : ∀ y, Sat t (-1) y → Sat o (-1) y) :
    Calls Try.prog 27 #[v, vo] w fun e w' => e = .returned (.bool true) ∧ Bel w w' := by
  obtain ⟨f1, f2, f3, f4, _, _⟩ := fit_of_valid hval
  have HN := Lib.hid (narrow_of (fit_of_valid hval) (fit_of_valid hvalo) hC hT hone hsub)
  have het : errR t true = 0 := errR_ok (askR_zero.2 ⟨hval, rfl⟩) hone
  have heo : errR o true = 0 := errR_ok (askR_zero.2 ⟨hvalo, rfl⟩) (by obtain ⟨y, hy⟩ := hone; exact ⟨y, hsub y hy⟩)
  have HV := Lib.hid hv
  have HO := Lib.hid hvo
  have tb : ∀ i : Nat, i < t.T.toNat → isTimeB t.T i = true := fun i h1 => by
    unfold isTimeB; rw [withinB_true, wrap64_in (t.T - 1) (by omega)]; omega
  have pb : ∀ i c : Nat, i + 1 < t.T.toNat → c < t.C.toNat → passB t.C t.T i c = true := fun i c h1 h2 => by
    unfold passB isStepB isTimeB
    simp only [Bool.and_eq_true, withinB_true]
    rw [wrap64_in (t.T - 2) (by omega), wrap64_in (t.C - 1) (by omega)]
    omega
  have HF1 := Lib.hid (fun wx hx => (fishL_any t v wx hx hval).mono (R' := fun e w' => ∃ sv, e = .returned (.tuple #[sv, .bool true]) ∧ SpanRowsAt w' sv t.T.toNat t.C.toNat (fun i c => fishLo t i c) (fun i c => fishHi t i c) ∧ Bel wx w') fun e w' h => by
    rcases h with ⟨_, h⟩ | ⟨h, _⟩
    · exact h
    · exact absurd het h)
  have HF2 := Lib.hid (fun wx hx => (fishL_any o vo wx hx hvalo).mono (R' := fun e w' => ∃ sv, e = .returned (.tuple #[sv, .bool true]) ∧ SpanRowsAt w' sv t.T.toNat t.C.toNat (fun i c => fishLo o i c) (fun i c => fishHi o i c) ∧ Bel wx w') fun e w' h => by
    rcases h with ⟨_, h⟩ | ⟨h, _⟩
    · rw [hC, hT] at h; exact h
    · exact absurd heo h)
  have HW1 := Lib.hid (fun wx hx (i : Nat) (hi : i < t.T.toNat) => (Whole_any t v i wx hx).mono fun e w' h => span_ok (a := wholeLo t i) (b := wholeHi t i) (by rw [tb i hi]; exact het) rfl rfl h)
  have HW2 := Lib.hid (fun wx hx (i : Nat) (hi : i < t.T.toNat) => (Whole_any o vo i wx hx).mono fun e w' h => span_ok (a := wholeLo o i) (b := wholeHi o i) (by rw [hT, tb i hi]; exact heo) rfl rfl h)
  have HP1 := Lib.hid (fun wx hx (i c : Nat) (hi : i + 1 < t.T.toNat) (hc : c < t.C.toNat) => (Passed_any t v i c wx hx).mono fun e w' h => span_ok (a := passLo t i c) (b := passHi t i c) (by rw [pb i c hi hc]; exact het) rfl rfl h)
  have HP2 := Lib.hid (fun wx hx (i c : Nat) (hi : i + 1 < t.T.toNat) (hc : c < t.C.toNat) => (Passed_any o vo i c wx hx).mono fun e w' h => span_ok (a := passLo o i c) (b := passHi o i c) (by rw [hT, hC, pb i c hi hc]; exact heo) rfl rfl h)
  clear het heo tb pb hval hvalo hC hT hone hsub
  obtain ⟨ov, wv, rfl, ⟨a, cc, b, off, rv, rfl, _⟩, ⟨wa, wc, wb, woff, rfl, _⟩⟩ := hv
  obtain ⟨ov', wv', rfl, ⟨a', cc', b', off', rv', rfl, _⟩, ⟨wa', wc', wb', woff', rfl, _⟩⟩ := hvo
  go_enter Try.func27, Try.ntmps27
  go_wp2_with fail
  refine (HF1.out _ (HV.out.bel (by repeat (first | assumption | exact Bel.refl _ | refine Bel.drew ?_ | refine Bel.drewN ?_ _ | refine Bel.alloc ?_ _ | refine Bel.setCell ?_ (by simp <;> omega) _ | refine Bel.trans ?_ (by assumption))))).mono ?_
  rintro e w1 ⟨sv, rfl, hS1, hb⟩
  have x0 : w1.cell? ⟨w.heap.size, 0, none⟩ = some (.int .i64 t.C) := hb.cell ((row_facts ((heap_alloc_old _ _ (by simp)).trans (new_row rfl))).1 0)
  have x1 : w1.cell? ⟨w.heap.size, 1, none⟩ = some (.int .i64 t.T) := hb.cell ((row_facts ((heap_alloc_old _ _ (by simp)).trans (new_row rfl))).1 1)
  have x2 : w1.cell? ⟨w.heap.size, 2, none⟩ = some (.slice a t.op.length cc) := hb.cell ((row_facts ((heap_alloc_old _ _ (by simp)).trans (new_row rfl))).1 2)
  have x3 : w1.cell? ⟨w.heap.size, 3, none⟩ = some (.slice wa t.ws.length wc) := hb.cell ((row_facts ((heap_alloc_old _ _ (by simp)).trans (new_row rfl))).1 3)
  have y0 : w1.cell? ⟨w.heap.size + 1, 0, none⟩ = some (.int .i64 o.C) := hb.cell ((row_facts (new_row (by simp))).1 0)
  have y1 : w1.cell? ⟨w.heap.size + 1, 1, none⟩ = some (.int .i64 o.T) := hb.cell ((row_facts (new_row (by simp))).1 1)
  have y2 : w1.cell? ⟨w.heap.size + 1, 2, none⟩ = some (.slice a' o.op.length cc') := hb.cell ((row_facts (new_row (by simp))).1 2)
  have y3 : w1.cell? ⟨w.heap.size + 1, 3, none⟩ = some (.slice wa' o.ws.length wc') := hb.cell ((row_facts (new_row (by simp))).1 3)
  have hB1 : Bel w w1 := Bel.trans (by repeat (first | assumption | exact Bel.refl _ | refine Bel.drew ?_ | refine Bel.drewN ?_ _ | refine Bel.alloc ?_ _ | refine Bel.setCell ?_ (by simp <;> omega) _ | refine Bel.trans ?_ (by assumption))) hb
  obtain ⟨b1, cap1, rv1, rfl, hr1⟩ := hS1
  have HR1 := Lib.hid hr1
  clear hb hr1
  go_wp2_with fail
  refine (HF2.out _ (HO.out.bel hB1)).mono ?_
  rintro e w2 ⟨sv2, rfl, hS2, hb⟩
  obtain ⟨b2, cap2, rv2, rfl, hr2⟩ := hS2
  have HR2 := Lib.hid hr2
  have HRR1 := Lib.hid (show ∀ i, i < t.T.toNat → w2.cell? ⟨b1, i, none⟩ = some (rv1 i) ∧ SpanRowAt w2 (rv1 i) t.C.toNat (fun c => fishLo t i c) (fun c => fishHi t i c) from fun i hi => ⟨hb.cell (HR1.out i hi).1, (HR1.out i hi).2.bel hb⟩)
  have HX := Lib.hid (And.intro (hb.cell x0) (And.intro (hb.cell x1) (And.intro (hb.cell x2) (hb.cell x3))))
  have HY := Lib.hid (And.intro (hb.cell y0) (And.intro (hb.cell y1) (And.intro (hb.cell y2) (hb.cell y3))))
  have HB2 := Lib.hid (hB1.trans hb)
  have hix1 := idxSpanRows (c := cap1) (n := t.T.toNat) (b := b1) (off := 0) (a := some ⟨b1, 0, none⟩) (fun _ => rfl)
  have hix2 := idxSpanRows (c := cap2) (n := t.T.toNat) (b := b2) (off := 0) (a := some ⟨b2, 0, none⟩) (fun _ => rfl)
  clear hb hr2 hB1 x0 x1 x2 x3 y0 y1 y2 y3 HF1 HF2 HR1
  go_wp2
  go_loopw [9] (fun i wr => ∃ n : Nat, n ≤ t.T.toNat ∧ i = .int .i64 n ∧ Bel w2 wr) (fun i _ => t.T.toNat - (intOf i).toNat)
  case atStart => exact ⟨0, by omega, rfl, Bel.refl _⟩
  case round =>
    obtain ⟨n, hn, rfl, hB⟩ := hrel
    have x1 := hB.cell HX.out.2.1
    by_cases hlt : n < t.T.toNat
    · have hni : (n : Int) < t.T := by omega
      have x0 := hB.cell HX.out.1
      have x2 := hB.cell HX.out.2.2.1
      have x3 := hB.cell HX.out.2.2.2
      have y0 := hB.cell HY.out.1
      have y1 := hB.cell HY.out.2.1
      have y2 := hB.cell HY.out.2.2.1
      have y3 := hB.cell HY.out.2.2.2
      have HB := Lib.hid hB
      clear hB
      go_wp2_with fail
      refine (HW1.out _ (HV.out.bel (HB2.out.trans HB.out)) n hlt).mono ?_
      rintro e w3 ⟨rfl, hb⟩
      replace y0 := hb.cell y0
      replace y1 := hb.cell y1
      replace y2 := hb.cell y2
      replace y3 := hb.cell y3
      have ly := cell_lt y0
      have HB3 := Lib.hid (HB.out.trans hb)
      clear hb x0 x1 x2 x3
      go_wp2_with fail
      refine (HW2.out _ (HO.out.bel ((HB2.out.trans HB3.out).alloc _)) n hlt).mono ?_
      rintro e w4 ⟨rfl, hb⟩
      have s0 : w4.cell? ⟨w3.heap.size, 0, none⟩ = some (.int .i64 (wholeLo t n)) := hb.cell ((row_facts (new_row rfl)).1 0)
      have s1 : w4.cell? ⟨w3.heap.size, 1, none⟩ = some (.int .i64 (wholeHi t n)) := hb.cell ((row_facts (new_row rfl)).1 1)
      have ls := cell_lt s0
      have HB4 := Lib.hid ((HB3.out.alloc _).trans hb)
      have HNW := Lib.hid (HN.out.whole n hlt)
      clear hb y0 y1 y2 y3 ly
      generalize wholeLo t n = q1 at *
      generalize wholeHi t n = q2 at *
      generalize wholeLo o n = q3 at *
      generalize wholeHi o n = q4 at *
      go_wp2_with fail
      refine (inside_true _ _ _ _ _ HNW.out).mono ?_
      rintro e w5 ⟨rfl, hb⟩
      have HB5 := Lib.hid ((HB4.out.alloc _).trans hb)
      clear hb s0 s1 ls
      go_wp2
      go_loopw [14] (fun c wj => ∃ k : Nat, k ≤ t.C.toNat ∧ c = .int .i64 k ∧ Bel w2 wj) (fun c _ => t.C.toNat - (intOf c).toNat)
      case atStart => exact ⟨0, by omega, rfl, HB5.out⟩
      case round =>
        obtain ⟨k, hk, rfl, hB⟩ := hrel
        have x0 := hB.cell HX.out.1
        by_cases hltk : k < t.C.toNat
        · have hki : (k : Int) < t.C := by omega
          obtain ⟨e1, br1, cr1, er1, hc1⟩ := HRR1.out n hlt
          obtain ⟨e2, br2, cr2, er2, hc2⟩ := HR2.out n hlt
          rw [er1] at e1
          rw [er2] at e2
          replace e1 := hB.cell e1
          replace e2 := hB.cell e2
          obtain ⟨c1, c2⟩ := hc1 k hltk
          obtain ⟨c3, c4⟩ := hc2 k hltk
          replace c1 := hB.cell c1
          replace c2 := hB.cell c2
          replace c3 := hB.cell c3
          replace c4 := hB.cell c4
          have hixa := idxSpan (c := cr1) (n := t.C.toNat) (b := br1) (off := 0) (a := some ⟨br1, 0, none⟩) (fun _ => rfl)
          have hixb := idxSpan (c := cr2) (n := t.C.toNat) (b := br2) (off := 0) (a := some ⟨br2, 0, none⟩) (fun _ => rfl)
          have l1 := cell_lt e1
          have l2 := cell_lt e2
          have l3 := cell_lt c1
          have l4 := cell_lt c3
          have HNF := Lib.hid (HN.out.fish n k hlt hltk)
          have HB := Lib.hid hB
          clear er1 er2 hc1 hc2 hB
          simp only [] at c1 c2 c3 c4
          generalize fishLo t n k = q1 at *
          generalize fishHi t n k = q2 at *
          generalize fishLo o n k = q3 at *
          generalize fishHi o n k = q4 at *
          have hnT : (n : Int) < ((t.T.toNat : Nat) : Int) := by omega
          have hkC : (k : Int) < ((t.C.toNat : Nat) : Int) := by omega
          go_wp2
          refine wp_region_mixB (Plan.seq [0, 1, 2, 3, 4, 5, 6, 7, 8, 9, 10, 11, 12, 13, 1014, 15] .nil) (by kernel_rfl) (by kernel_rfl) (fun hcur => ?_)
          simp only [Plan.seq, Plan.fill, List.getD_cons_zero, List.getD_cons_succ, Nat.reduceLT, ↓reduceIte, Nat.reduceSub]
          apply mix_pure _ rfl
          · intro w' hw'
            have hcr := hw'.cells
            go_simp
            rfl
          intro K hK
          go_simp
          refine hK _ ?_
          clear hK K
          apply mix_pure _ rfl
          · intro w' hw'
            have hcr := hw'.cells
            go_simp
            rfl
          intro K hK
          go_simp
          refine hK _ ?_
          clear hK K
          apply mix_pure _ rfl
          · intro w' hw'
            have hcr := hw'.cells
            go_simp
            rfl
          intro K hK
          go_simp
          refine hK _ ?_
          clear hK K
          apply mix_pure _ rfl
          · intro w' hw'
            have hcr := hw'.cells
            go_simp
            rfl
          intro K hK
          go_simp
          refine hK _ ?_
          clear hK K
          apply mix_pure _ rfl
          · intro w' hw'
            have hcr := hw'.cells
            go_simp
            rfl
          intro K hK
          go_simp
          refine hK _ ?_
          clear hK K
          apply mix_pure _ rfl
          · intro w' hw'
            have hcr := hw'.cells
            go_simp
            rfl
          intro K hK
          go_simp
          refine hK _ ?_
          clear hK K
          apply mix_pure _ rfl
          · intro w' hw'
            have hcr := hw'.cells
            go_simp
            rfl
          intro K hK
          go_simp
          refine hK _ ?_
          clear hK K
          apply mix_pure _ rfl
          · intro w' hw'
            have hcr := hw'.cells
            go_simp
            rfl
          intro K hK
          go_simp
          refine hK _ ?_
          clear hK K
          apply mix_pure _ rfl
          · intro w' hw'
            have hcr := hw'.cells
            go_simp
            rfl
          intro K hK
          go_simp
          refine hK _ ?_
          clear hK K
          apply mix_pure _ rfl
          · intro w' hw'
            have hcr := hw'.cells
            go_simp
            rfl
          intro K hK
          go_simp
          refine hK _ ?_
          clear hK K
          apply mix_pure _ rfl
          · intro w' hw'
            have hcr := hw'.cells
            go_simp
            rfl
          intro K hK
          go_simp
          refine hK _ ?_
          clear hK K
          apply mix_pure _ rfl
          · intro w' hw'
            have hcr := hw'.cells
            go_simp
            rfl
          intro K hK
          go_simp
          refine hK _ ?_
          clear hK K
          apply mix_pure _ rfl
          · intro w' hw'
            have hcr := hw'.cells
            go_simp
            rfl
          intro K hK
          go_simp
          refine hK _ ?_
          clear hK K
          apply mix_pure _ rfl
          · intro w' hw'
            have hcr := hw'.cells
            go_simp
            rfl
          intro K hK
          go_simp
          refine hK _ ?_
          clear hK K
          refine mix_act rfl (fun K hK => ?_)
          go_simp
          refine (inside_true _ _ _ _ _ HNF.out).mono ?_
          rintro e w6 ⟨rfl, hb⟩
          simp only []
          refine hK _ _ (hcur.trans hb) (fun hcur => ?_)
          clear hK K hb
          apply mix_pure _ rfl
          · intro w' hw'
            have hcr := hw'.cells
            go_simp
            rfl
          intro K hK
          go_simp
          refine hK _ ?_
          clear hK K
          refine mix_nil ?_
          have HB6 := Lib.hid (HB.out.trans hcur)
          clear hcur e1 e2 c1 c2 c3 c4 l1 l2 l3 l4 x0 hixa hixb
          have x0 := HB6.out.cell HX.out.1
          have x1 := HB6.out.cell HX.out.2.1
          have x2 := HB6.out.cell HX.out.2.2.1
          have x3 := HB6.out.cell HX.out.2.2.2
          have y0 := HB6.out.cell HY.out.1
          have y1 := HB6.out.cell HY.out.2.1
          have y2 := HB6.out.cell HY.out.2.2.1
          have y3 := HB6.out.cell HY.out.2.2.2
          have hwn : IntKind.i64.wrap ((n : Int) + 1) = (n : Int) + 1 := IntWalk.i64_in _ (by omega)
          by_cases hlast : (n : Int) + 1 = t.T
          · have hlb : ((n : Int) + 1 == t.T) = true := by simpa using hlast
            clear hlast
            go_wp2
            go_roundw
            case rel => exact ⟨k + 1, by omega, by go_num, HB6.out⟩
            case measure => simp [intOf]; omega
          · have hlb : ((n : Int) + 1 == t.T) = false := by simpa using hlast
            have hn1 : n + 1 < t.T.toNat := by omega
            go_wp2_with fail
            refine (HP1.out _ (HV.out.bel (HB2.out.trans HB6.out)) n k hn1 hltk).mono ?_
            rintro e w7 ⟨rfl, hb⟩
            replace y0 := hb.cell y0
            replace y1 := hb.cell y1
            replace y2 := hb.cell y2
            replace y3 := hb.cell y3
            have ly := cell_lt y0
            have HB7 := Lib.hid (HB6.out.trans hb)
            clear hb x0 x1 x2 x3
            go_wp2_with fail
            refine (HP2.out _ (HO.out.bel ((HB2.out.trans HB7.out).alloc _)) n k hn1 hltk).mono ?_
            rintro e w8 ⟨rfl, hb⟩
            have s0 : w8.cell? ⟨w7.heap.size, 0, none⟩ = some (.int .i64 (passLo t n k)) := hb.cell ((row_facts (new_row rfl)).1 0)
            have s1 : w8.cell? ⟨w7.heap.size, 1, none⟩ = some (.int .i64 (passHi t n k)) := hb.cell ((row_facts (new_row rfl)).1 1)
            have ls := cell_lt s0
            have HB8 := Lib.hid ((HB7.out.alloc _).trans hb)
            have HNP := Lib.hid (HN.out.passed n k hn1 hltk)
            clear hb y0 y1 y2 y3 ly
            generalize passLo t n k = p1 at *
            generalize passHi t n k = p2 at *
            generalize passLo o n k = p3 at *
            generalize passHi o n k = p4 at *
            go_wp2_with fail
            refine (inside_true _ _ _ _ _ HNP.out).mono ?_
            rintro e w9 ⟨rfl, hb⟩
            have HB9 := Lib.hid ((HB8.out.alloc _).trans hb)
            clear hb s0 s1 ls
            go_wp2
            go_roundw
            case rel => exact ⟨k + 1, by omega, by go_num, HB9.out⟩
            case measure => simp [intOf]; omega
        · have HB := Lib.hid hB
          clear hB
          go_wp2
          go_roundw
          case rel => exact ⟨n + 1, by omega, by go_num, HB.out⟩
          case measure => simp [intOf]; omega
    · have HB := Lib.hid (HB2.out.trans hB)
      clear hB
      go_wp2
      go_ret
      exact ⟨rfl, HB.out⟩
end Go.Proofs.Ytoiajjdhgffdaaa
