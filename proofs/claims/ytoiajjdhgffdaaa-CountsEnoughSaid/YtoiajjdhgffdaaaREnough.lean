/-
  reference: Enough.
-/
import Derived.Test.YtoiajjdhgffdaaaRSpan
import Derived.Test.YtoiajjdhgffdaaaEnough2
import Derived.Test.YtoiajjdhgffdaaaTold
namespace Go.Proofs.Ytoiajjdhgffdaaa
open Go Go.RowKit
set_option maxHeartbeats 4000000
set_option maxRecDepth 100000
/-- Going down from the end: r is the first place below n at which f is true among those looked at (k ..), if f only turns true. -/
theorem enHi_eq (t : CT) (fish : Int) (i : Nat) : enHi t fish i = decide (fish ≤ fishHi t i (t.C - 1)) := by
  unfold enHi fishHi
  rw [show t.C - 1 + 1 = t.C by omega]
theorem enLo_eq (t : CT) (fish : Int) (i : Nat) : enLo t fish i = decide (fish ≤ fishLo t i (t.C - 1)) := by
  unfold enLo fishLo
  rw [show t.C - 1 + 1 = t.C by omega]
/-- The last that was found, going down to k: the least place from k on at which f is true. -/
def LastDown (n k : Nat) (f : Nat → Bool) (r : Int) : Prop := (r = -1 ∧ ∀ j, k ≤ j → j < n → f j = false) ∨ ∃ p, (k ≤ p ∧ p < n) ∧ r = p ∧ f p = true ∧ ∀ j, k ≤ j → j < p → f j = false
theorem LastDown.first {n : Nat} {f : Nat → Bool} {r : Int} (h : LastDown n 0 f r) : IsFirst n f r := by
  rcases h with ⟨h1, h2⟩ | ⟨p, ⟨_, h2⟩, h3, h4, h5⟩
  · exact .inl ⟨h1, fun j hj => h2 j (by omega) hj⟩
  · exact .inr ⟨p, h2, h3, h4, fun j hj => h5 j (by omega) hj⟩
theorem LastDown.yes {n k : Nat} {f : Nat → Bool} (hk : k < n) (h : f k = true) : LastDown n k f k := .inr ⟨k, ⟨Nat.le_refl _, hk⟩, rfl, h, fun j h1 h2 => by omega⟩
theorem LastDown.no {n k : Nat} {f : Nat → Bool} {r : Int} (h : LastDown n (k + 1) f r) (hf : f k = false) : LastDown n k f r := by
  rcases h with ⟨h1, h2⟩ | ⟨p, ⟨p1, p2⟩, h3, h4, h5⟩
  · refine .inl ⟨h1, fun j hj hn => ?_⟩
    by_cases e : j = k
    · rw [e]; exact hf
    · exact h2 j (by omega) hn
  · refine .inr ⟨p, ⟨by omega, p2⟩, h3, h4, fun j hj hp => ?_⟩
    by_cases e : j = k
    · rw [e]; exact hf
    · exact h5 j (by omega) hp
theorem IsFirst.uniq {n : Nat} {f : Nat → Bool} {a b : Int} (h : IsFirst n f a) (k : IsFirst n f b) : a = b := by
  rcases h with ⟨h1, h2⟩ | ⟨p, p1, p2, p3, p4⟩ <;> rcases k with ⟨k1, k2⟩ | ⟨q, q1, q2, q3, q4⟩
  · omega
  · rw [h2 q q1] at q3; cases q3
  · rw [k2 p p1] at p3; cases p3
  · have : ¬ p < q := fun e => by rw [q4 p e] at p3; cases p3
    have : ¬ q < p := fun e => by rw [p4 q e] at q3; cases q3
    omega
theorem isPlaceB_mk2 {C T i c : Int} (hC1 : 1 ≤ C) (hC2 : C ≤ 4) (hT1 : 1 ≤ T) (hT2 : T ≤ 5) (h : 0 ≤ i ∧ i < T) (h2 : 0 ≤ c ∧ c < C) : isPlaceB C T i c = true := by
  unfold isPlaceB isTimeB
  simp only [Bool.and_eq_true, withinB_true]
  rw [wrap64_in (T - 1) (by omega), wrap64_in (C - 1) (by omega)]
  omega
theorem REnough_any (t : CT) (v : Value) (fish : Int) (w : World) (hv : TrapAt w v t) : Calls Try.prog 41 #[v, .int .i64 fish] w (EnoughPost t fish w) := by
  have HV := Lib.hid hv
  obtain ⟨ov, wv, rfl, ⟨a, cc, b, off, rv, rfl, _⟩, ⟨wa, wc, wb, woff, rfl, _⟩⟩ := hv
  have HKN := Lib.hid (fun wx hx => known_any t (.agg #[.int .i64 t.C, .int .i64 t.T, .slice a t.op.length cc, .slice wa t.ws.length wc]) (withinB fish 1 40) wx hx)
  by_cases he : errR t (withinB fish 1 40) = 0
  · obtain ⟨hval, hwd, hone⟩ := errR_zero he
    have hf := fit_of_valid hval
    obtain ⟨f1, f2, f3, f4, _, _⟩ := fit_of_valid hval
    have HFO := Lib.hid (fun wx hx (i : Nat) (hi : i < t.T.toNat) => FishOf_any t (.agg #[.int .i64 t.C, .int .i64 t.T, .slice a t.op.length cc, .slice wa t.ws.length wc]) i (t.C - 1) wx hx hf (valid_nine hval) hone (isPlaceB_mk2 f1 f2 f3 f4 (by omega) (by omega)))
    have HE := Lib.hid he
    rw [he] at HKN
    rw [hwd] at HKN
    clear hval hone hf he
    have hwt : IntKind.i64.wrap (t.T - 1) = t.T - 1 := IntWalk.i64_in _ (by omega)
    have hwc : IntKind.i64.wrap (t.C - 1) = t.C - 1 := IntWalk.i64_in _ (by omega)
    go_enter Try.func41, Try.ntmps41
    go_wp2
    refine wp_region_mixB (Plan.seq [0, 1, 1002, 1003, 4] .nil) (by kernel_rfl) (by kernel_rfl) (fun hcur => ?_)
    simp only [Plan.seq, Plan.fill, List.getD_cons_zero, List.getD_cons_succ, Nat.reduceLT, ↓reduceIte, Nat.reduceSub]
    apply mix_pure _ rfl
    · intro w' hw'
      have hcr := hw'.cells
      go_simp
      rfl
    intro K hK
    go_simp
    refine hK _ ?_
    clear hK K
    apply mix_pure _ rfl
    · intro w' hw'
      have hcr := hw'.cells
      go_simp
      rfl
    intro K hK
    go_simp
    refine hK _ ?_
    clear hK K
    refine mix_act rfl (fun K hK => ?_)
    go_simp
    refine (IsFish_any _ _).mono ?_
    rintro e w' ⟨rfl, rfl⟩
    simp only []
    refine hK _ _ hcur (fun hcur => ?_)
    clear hK K
    refine mix_act rfl (fun K hK => ?_)
    go_simp
    refine (HKN.out _ (HV.out.bel (by repeat (first | assumption | exact Bel.refl _ | refine Bel.drew ?_ | refine Bel.drewN ?_ _ | refine Bel.alloc ?_ _ | refine Bel.setCell ?_ (by simp <;> omega) _ | refine Bel.trans ?_ (by assumption))))).mono ?_
    rintro e w9 ⟨rfl, hb⟩
    simp only []
    refine hK _ _ (hcur.trans hb) (fun hcur => ?_)
    clear hK K hb
    apply mix_pure _ rfl
    · intro w' hw'
      have hcr := hw'.cells
      go_simp
      rfl
    intro K hK
    go_simp
    refine hK _ ?_
    clear hK K
    refine mix_nil ?_
    have HX := Lib.hid (show w9.cell? ⟨w.heap.size, 0, none⟩ = some (.int .i64 t.C) ∧ w9.cell? ⟨w.heap.size, 1, none⟩ = some (.int .i64 t.T) ∧ w9.cell? ⟨w.heap.size, 2, none⟩ = some (.slice a t.op.length cc) ∧ w9.cell? ⟨w.heap.size, 3, none⟩ = some (.slice wa t.ws.length wc) from
      ⟨hcur.cell ((row_facts ((heap_alloc_old _ _ (by simp)).trans (new_row rfl))).1 0), hcur.cell ((row_facts ((heap_alloc_old _ _ (by simp)).trans (new_row rfl))).1 1), hcur.cell ((row_facts ((heap_alloc_old _ _ (by simp)).trans (new_row rfl))).1 2), hcur.cell ((row_facts ((heap_alloc_old _ _ (by simp)).trans (new_row rfl))).1 3)⟩)
    have HRR := Lib.hid (show w9.cell? ⟨w.heap.size + 1, 0, none⟩ = some (.int .i64 0) ∧ w9.cell? ⟨w.heap.size + 1, 1, none⟩ = some (.int .i64 0) ∧ ∀ o, w9.frozen? ⟨w.heap.size + 1, o, none⟩ = false from
      ⟨hcur.cell ((row_facts (new_row (by simp))).1 0), hcur.cell ((row_facts (new_row (by simp))).1 1), fun o => (hcur.frozens ⟨w.heap.size + 1, o, none⟩ (by simp)).trans ((row_facts (new_row (by simp))).2 o)⟩)
    have HB9 := Lib.hid (show Bel w w9 from Bel.trans (by repeat (first | assumption | exact Bel.refl _ | refine Bel.drew ?_ | refine Bel.drewN ?_ _ | refine Bel.alloc ?_ _ | refine Bel.setCell ?_ (by simp <;> omega) _ | refine Bel.trans ?_ (by assumption))) hcur)
    clear hcur
    have x0 := HX.out.1
    have x1 := HX.out.2.1
    have lx := cell_lt x0
    go_wp2
    go_loopw [8] (fun s8 wr => ∃ (k : Nat) (r1 r2 : Int), k ≤ t.T.toNat ∧ s8 = .int .i64 ((k : Int) - 1) ∧ (-1 ≤ r1 ∧ r1 ≤ 5 ∧ -1 ≤ r2 ∧ r2 ≤ 5) ∧ Bel w9 wr ∧ wr.cell? ⟨w9.heap.size, 0, none⟩ = some (.int .i64 r1) ∧ wr.cell? ⟨w9.heap.size, 1, none⟩ = some (.int .i64 r2) ∧
      (∀ o, wr.frozen? ⟨w9.heap.size, o, none⟩ = false) ∧ LastDown t.T.toNat k (enHi t fish) r1 ∧ LastDown t.T.toNat k (enLo t fish) r2) (fun s8 _ => (intOf s8 + 1).toNat)
    case atStart =>
      exact ⟨t.T.toNat, -1, -1, Nat.le_refl _, by rw [show ((t.T.toNat : Nat) : Int) = t.T by omega], by omega, (Bel.refl _).alloc _, (row_facts (new_row rfl)).1 0, (row_facts (new_row rfl)).1 1, (row_facts (new_row rfl)).2, .inl ⟨rfl, fun j h1 h2 => by omega⟩, .inl ⟨rfl, fun j h1 h2 => by omega⟩⟩
    case round =>
      clear x0 x1 lx
      obtain ⟨k, r1, r2, hkT, rfl, hrr, hBr, p0, p1, pf, hD1, hD2⟩ := hrel
      have x0 := hBr.cell HX.out.1
      have x1 := hBr.cell HX.out.2.1
      have x2 := hBr.cell HX.out.2.2.1
      have x3 := hBr.cell HX.out.2.2.2
      have lx := cell_lt x0
      have lp := cell_lt p0
      have HD1 := Lib.hid hD1
      have HD2 := Lib.hid hD2
      have HBR := Lib.hid hBr
      clear hD1 hD2
      by_cases hk0 : 0 < k
      · obtain ⟨m, rfl⟩ : ∃ m, k = m + 1 := ⟨k - 1, by omega⟩
        have hm : (((m + 1 : Nat) : Int) - 1) = (m : Int) := by omega
        rw [hm]
        have hwm : IntKind.i64.wrap ((m : Int) - 1) = (m : Int) - 1 := IntWalk.i64_in _ (by omega)
        have HMT := Lib.hid (show m < t.T.toNat by omega)
        have HH := Lib.hid (enHi_eq t fish m)
        have HL := Lib.hid (enLo_eq t fish m)
        have HPF := Lib.hid pf
        clear hBr hk0 hm pf
        go_wp2_with fail
        refine (HFO.out _ (HV.out.bel (HB9.out.trans HBR.out)) m HMT.out).mono ?_
        rintro e w3 ⟨rfl, hb⟩
        generalize fishLo t m (t.C - 1) = lo at *
        generalize fishHi t m (t.C - 1) = hi at *
        replace p0 := hb.cell p0
        replace p1 := hb.cell p1
        have pf : ∀ o, w3.frozen? ⟨w9.heap.size, o, none⟩ = false := fun o => (hb.frozens ⟨w9.heap.size, o, none⟩ lp).trans (HPF.out o)
        have HB3 := Lib.hid (HBR.out.trans hb)
        replace lp := cell_lt p0
        clear hb x0 x1 x2 x3 lx
        by_cases e1 : fish ≤ hi <;> by_cases e2 : fish ≤ lo
        all_goals
          have HN1 : Hid (LastDown t.T.toNat m (enHi t fish) (if fish ≤ hi then (m : Int) else r1)) := Lib.hid (by
            first
              | (rw [if_pos e1]; exact LastDown.yes HMT.out (by rw [HH.out, decide_eq_true e1]))
              | (rw [if_neg e1]; exact HD1.out.no (by rw [HH.out, decide_eq_false e1])))
          have HN2 : Hid (LastDown t.T.toNat m (enLo t fish) (if fish ≤ lo then (m : Int) else r2)) := Lib.hid (by
            first
              | (rw [if_pos e2]; exact LastDown.yes HMT.out (by rw [HL.out, decide_eq_true e2]))
              | (rw [if_neg e2]; exact HD2.out.no (by rw [HL.out, decide_eq_false e2])))
          first
            | rw [if_pos e1] at HN1
            | rw [if_neg e1] at HN1
          first
            | rw [if_pos e2] at HN2
            | rw [if_neg e2] at HN2
          have P0 := Lib.hid p0
          have P1 := Lib.hid p1
          have PF := Lib.hid pf
          go_wp2
          go_roundw
          case rel =>
            refine ⟨m, _, _, by have := HMT.out; omega, by go_num, ?_, ?_, ?_, ?_, ?_, HN1.out, HN2.out⟩
            · have := HMT.out; omega
            · first
                | exact (((HB3.out.setCell (by show _ ≤ w9.heap.size; omega) _).setCell (by show _ ≤ w9.heap.size; omega) _).alloc _)
                | exact ((HB3.out.setCell (by show _ ≤ w9.heap.size; omega) _).alloc _)
                | exact HB3.out.alloc _
            · first
                | exact (World.cell?_alloc_lt _ _ _ (by simpa using lp)).trans (set2_cells P0.out P1.out).1
                | exact (World.cell?_alloc_lt _ _ _ (by simpa using lp)).trans (World.cell?_setCell_same _ _ _ (by rw [P0.out]))
                | exact (World.cell?_alloc_lt _ _ _ (by simpa using lp)).trans ((World.cell?_setCell_other _ _ _ _ (by intro q; injection q; omega)).trans P0.out)
                | exact (World.cell?_alloc_lt _ _ _ (by simpa using lp)).trans P0.out
            · first
                | exact (World.cell?_alloc_lt _ _ _ (by simpa using lp)).trans (set2_cells P0.out P1.out).2
                | exact (World.cell?_alloc_lt _ _ _ (by simpa using lp)).trans (World.cell?_setCell_same _ _ _ (by rw [P1.out]))
                | exact (World.cell?_alloc_lt _ _ _ (by simpa using lp)).trans ((World.cell?_setCell_other _ _ _ _ (by intro q; injection q; omega)).trans P1.out)
                | exact (World.cell?_alloc_lt _ _ _ (by simpa using lp)).trans P1.out
            · intro o
              first
                | exact (frozen_keep (heap_alloc_old _ _ (by simpa using lp))).trans ((World.frozen?_setCell ..).trans ((World.frozen?_setCell ..).trans (PF.out o)))
                | exact (frozen_keep (heap_alloc_old _ _ (by simpa using lp))).trans ((World.frozen?_setCell ..).trans (PF.out o))
                | exact (frozen_keep (heap_alloc_old _ _ (by simpa using lp))).trans (PF.out o)
          case measure => first | (simp [intOf]; done) | (simp [intOf]; omega)
      · have hk0' : k = 0 := by omega
        subst hk0'
        have HF1 := Lib.hid HD1.out.first
        have HF2 := Lib.hid HD2.out.first
        have r0 := HBR.out.cell HRR.out.1
        have r1' := HBR.out.cell HRR.out.2.1
        have rf : ∀ o, wr.frozen? ⟨w.heap.size + 1, o, none⟩ = false := fun o => (HBR.out.frozens ⟨w.heap.size + 1, o, none⟩ (by have := cell_lt HRR.out.1; exact this)).trans (HRR.out.2.2 o)
        have HBF := Lib.hid (HB9.out.trans HBR.out)
        clear hBr hk0
        by_cases hneg : r2 < 0
        · go_wp2
          exact bodyPost_ret (v := .tuple #[.agg #[.int .i64 0, .int .i64 0], .int .i64 3]) (by simp [results, Try.results41, go_sem, *]) rfl (.inr ⟨HE.out, r1, r2, HF1.out, HF2.out, by rw [if_pos (by omega)]; exact SpanPost.err (by omega) ((HBF.out.setCell (by simp) _).setCell (by simp) _)⟩)
        · go_wp2
          exact bodyPost_ret (v := .tuple #[.agg #[.int .i64 r1, .int .i64 r2], .int .i64 0]) (by simp [results, Try.results41, go_sem, *]) rfl (.inr ⟨HE.out, r1, r2, HF1.out, HF2.out, by rw [if_neg (by omega)]; exact SpanPost.ok rfl ((HBF.out.setCell (by simp) _).setCell (by simp) _)⟩)
  · have hne : (errR t (withinB fish 1 40) != 0) = true := by rw [bne_iff_ne]; exact he
    have HE := Lib.hid he
    clear he
    have HQ := Lib.hid (show ∀ e w', SpanPost (errR t (withinB fish 1 40)) 0 0 w e w' → EnoughPost t fish w e w' from fun e w' h => .inl ⟨HE.out, h⟩)
    generalize errR t (withinB fish 1 40) = er at *
    go_enter Try.func41, Try.ntmps41
    go_wp2
    refine wp_region_mixB (Plan.seq [0, 1, 1002, 1003, 4] .nil) (by kernel_rfl) (by kernel_rfl) (fun hcur => ?_)
    simp only [Plan.seq, Plan.fill, List.getD_cons_zero, List.getD_cons_succ, Nat.reduceLT, ↓reduceIte, Nat.reduceSub]
    apply mix_pure _ rfl
    · intro w' hw'
      have hcr := hw'.cells
      go_simp
      rfl
    intro K hK
    go_simp
    refine hK _ ?_
    clear hK K
    apply mix_pure _ rfl
    · intro w' hw'
      have hcr := hw'.cells
      go_simp
      rfl
    intro K hK
    go_simp
    refine hK _ ?_
    clear hK K
    refine mix_act rfl (fun K hK => ?_)
    go_simp
    refine (IsFish_any _ _).mono ?_
    rintro e w' ⟨rfl, rfl⟩
    simp only []
    refine hK _ _ hcur (fun hcur => ?_)
    clear hK K
    refine mix_act rfl (fun K hK => ?_)
    go_simp
    refine (HKN.out _ (HV.out.bel (by repeat (first | assumption | exact Bel.refl _ | refine Bel.drew ?_ | refine Bel.drewN ?_ _ | refine Bel.alloc ?_ _ | refine Bel.setCell ?_ (by simp <;> omega) _ | refine Bel.trans ?_ (by assumption))))).mono ?_
    rintro e w9 ⟨rfl, hb⟩
    simp only []
    refine hK _ _ (hcur.trans hb) (fun hcur => ?_)
    clear hK K hb
    apply mix_pure _ rfl
    · intro w' hw'
      have hcr := hw'.cells
      go_simp
      rfl
    intro K hK
    go_simp
    refine hK _ ?_
    clear hK K
    refine mix_nil ?_
    have r0 : w9.cell? ⟨w.heap.size + 1, 0, none⟩ = some (.int .i64 0) := hcur.cell ((row_facts (new_row (by simp))).1 0)
    have r1 : w9.cell? ⟨w.heap.size + 1, 1, none⟩ = some (.int .i64 0) := hcur.cell ((row_facts (new_row (by simp))).1 1)
    have rf : ∀ o, w9.frozen? ⟨w.heap.size + 1, o, none⟩ = false := fun o => (hcur.frozens ⟨w.heap.size + 1, o, none⟩ (by simp)).trans ((row_facts (new_row (by simp))).2 o)
    have HB9 := Lib.hid (show Bel w w9 from Bel.trans (by repeat (first | assumption | exact Bel.refl _ | refine Bel.drew ?_ | refine Bel.drewN ?_ _ | refine Bel.alloc ?_ _ | refine Bel.setCell ?_ (by simp <;> omega) _ | refine Bel.trans ?_ (by assumption))) hcur)
    clear hcur
    go_wp2
    exact bodyPost_ret (v := .tuple #[.agg #[.int .i64 0, .int .i64 0], .int .i64 er]) (by simp [results, Try.results41, go_sem, *]) rfl (HQ.out _ _ (SpanPost.err HE.out ((HB9.out.setCell (by simp) _).setCell (by simp) _)))
end Go.Proofs.Ytoiajjdhgffdaaa
