/-
  law: THE THEOREM OF TIME: CountsTime returns true and changes nothing that was there, for every trap and every three times.
-/
import Derived.Test.YtoiajjdhgffdaaaWorks
import Derived.Test.YtoiajjdhgffdaaaTimeV
namespace Go.Proofs.Ytoiajjdhgffdaaa
open Go Go.RowKit
set_option maxHeartbeats 2000000
set_option maxRecDepth 100000
theorem errR_true {t : CT} {b : Bool} (h : b = true) : errR t b = errR t true := by rw [h]
theorem errR_valid {t : CT} (hv : validB t = true) (h : errR t true ≠ 0) : errR t true = 3 := by
  by_cases q : ∃ y, Sat t (-1) y
  · exact absurd (errR_ok (askR_zero.2 ⟨hv, rfl⟩) q) h
  · exact errR_none (askR_zero.2 ⟨hv, rfl⟩) q
theorem span_err {er lo hi : Int} {w w' : World} {e : Ending} (he : er = 3) (h : SpanPost er lo hi w e w') : e = .returned (.tuple #[.agg #[.int .i64 0, .int .i64 0], .int .i64 3]) ∧ Bel w w' := by
  obtain ⟨rfl, hb⟩ := h
  rw [if_neg (by omega), if_neg (by omega), he]
  exact ⟨rfl, hb⟩
theorem readyB_iff {t : CT} : readyB t = true ↔ HugeB t = false ∧ validB t = true := by
  unfold readyB chk
  cases HugeB t <;> cases validB t <;> simp
theorem isPlaceB_mk {C T i c : Int} (hC1 : 1 ≤ C) (hC2 : C ≤ 4) (hT1 : 1 ≤ T) (hT2 : T ≤ 5) (h : 0 ≤ i ∧ i < T) (h2 : 0 ≤ c ∧ c < C) : isPlaceB C T i c = true := by
  unfold isPlaceB isTimeB
  simp only [Bool.and_eq_true, withinB_true]
  rw [wrap64_in (T - 1) (by omega), wrap64_in (C - 1) (by omega)]
  omega
theorem isTimeB_mk {T i : Int} (hT1 : 1 ≤ T) (hT2 : T ≤ 5) (h : 0 ≤ i ∧ i < T) : isTimeB T i = true := by
  unfold isTimeB
  rw [withinB_true, wrap64_in (T - 1) (by omega)]
  omega
theorem cameB_mk {T f o : Int} (h : 0 ≤ f ∧ f ≤ o ∧ o < T) : cameB T f o = true := by
  unfold cameB
  simp only [Bool.and_eq_true, withinB_true, decide_eq_true_eq]
  omega
theorem CountsTime_any (t : CT) (v : Value) (o u r : Int) (w : World) (hv : TrapAt w v t) : Calls Try.prog 8 #[v, .int .i64 o, .int .i64 u, .int .i64 r] w fun e w' => e = .returned (.bool true) ∧ Bel w w' := by
  have HV := Lib.hid hv
  obtain ⟨ov, wv, rfl, ⟨a, c, b, off, rv, rfl, _⟩, ⟨wa, wc, wb, woff, rfl, _⟩⟩ := hv
  have HR := Lib.hid (fun wx hx => ready_any t (.agg #[.int .i64 t.C, .int .i64 t.T, .slice a t.op.length c, .slice wa t.ws.length wc]) wx hx)
  by_cases hr : readyB t = true
  rotate_left
  · have hr : readyB t = false := by simpa using hr
    rw [hr] at HR
    go_enter Try.func8, Try.ntmps8
    go_wp2_with (first
      | (go_at_call 16; refine (HR.out _ (HV.out.bel (by repeat (first | assumption | exact Bel.refl _ | refine Bel.drew ?_ | refine Bel.drewN ?_ _ | refine Bel.alloc ?_ _ | refine Bel.setCell ?_ (by simp <;> omega) _ | refine Bel.trans ?_ (by assumption))))).mono ?_; rintro e w' ⟨rfl, hb⟩)
      | (go_at_call 18; refine (works_any _).mono ?_; rintro e w'' ⟨rfl, hb2⟩))
    go_ret
    exact ⟨rfl, (by repeat (first | assumption | exact Bel.refl _ | refine Bel.drew ?_ | refine Bel.drewN ?_ _ | refine Bel.alloc ?_ _ | refine Bel.setCell ?_ (by simp <;> omega) _ | refine Bel.trans ?_ (by assumption)))⟩
  rw [hr] at HR
  have hval := (readyB_iff.1 hr).2
  obtain ⟨f1, f2, f3, f4, f5, _⟩ := fit_of_valid hval
  by_cases hg : 0 ≤ o ∧ o ≤ u ∧ u ≤ r ∧ r < t.T
  rotate_left
  · have hcs : o < 0 ∨ (0 ≤ o ∧ u < o) ∨ (0 ≤ o ∧ o ≤ u ∧ r < u) ∨ (0 ≤ o ∧ o ≤ u ∧ u ≤ r ∧ t.T ≤ r) := by omega
    clear hg f5 hval hr
    rcases hcs with h1 | ⟨h1, h2⟩ | ⟨h1, h2, h3⟩ | ⟨h1, h2, h3, h4⟩
    all_goals
      go_enter Try.func8, Try.ntmps8
      go_wp2_with (first
        | (go_at_call 16; refine (HR.out _ (HV.out.bel (by repeat (first | assumption | exact Bel.refl _ | refine Bel.drew ?_ | refine Bel.drewN ?_ _ | refine Bel.alloc ?_ _ | refine Bel.setCell ?_ (by simp <;> omega) _ | refine Bel.trans ?_ (by assumption))))).mono ?_; rintro e w' ⟨rfl, hb⟩; have hcr := hb.cells; have z0 : w.heap.size < w'.heap.size := (by have hz := hb.szle; simp only [World.size_alloc] at hz; omega))
        | (go_at_call 18; refine (works_any _).mono ?_; rintro e w'' ⟨rfl, hb2⟩))
      go_ret
      exact ⟨rfl, (by repeat (first | assumption | exact Bel.refl _ | refine Bel.drew ?_ | refine Bel.drewN ?_ _ | refine Bel.alloc ?_ _ | refine Bel.setCell ?_ (by simp <;> omega) _ | refine Bel.trans ?_ (by assumption)))⟩
  obtain ⟨g0, g1, g2, g3⟩ := hg
  have hw1 : IntKind.i64.wrap (t.C - 1) = t.C - 1 := IntWalk.i64_in _ (by omega)
  have q1 := isPlaceB_mk f1 f2 f3 f4 (i := o) (c := t.C - 1) (by omega) (by omega)
  have q2 := isPlaceB_mk f1 f2 f3 f4 (i := u) (c := t.C - 1) (by omega) (by omega)
  have q3 := isTimeB_mk f3 f4 (i := o) (by omega)
  have q4 := isTimeB_mk f3 f4 (i := u) (by omega)
  have q5 := cameB_mk (T := t.T) (f := o) (o := u) (by omega)
  have q6 := cameB_mk (T := t.T) (f := u) (o := r) (by omega)
  have q7 := cameB_mk (T := t.T) (f := o) (o := r) (by omega)
  by_cases he : errR t true = 0
  rotate_left
  · have h3 := errR_valid hval he
    have HF1 := Lib.hid (fun wx hx => (Fish_any t (.agg #[.int .i64 t.C, .int .i64 t.T, .slice a t.op.length c, .slice wa t.ws.length wc]) o (t.C - 1) wx hx).mono fun e w' h => span_err ((errR_true q1).trans h3) h)
    have HF2 := Lib.hid (fun wx hx => (Fish_any t (.agg #[.int .i64 t.C, .int .i64 t.T, .slice a t.op.length c, .slice wa t.ws.length wc]) u (t.C - 1) wx hx).mono fun e w' h => span_err ((errR_true q2).trans h3) h)
    have HF3 := Lib.hid (fun wx hx => (Whole_any t (.agg #[.int .i64 t.C, .int .i64 t.T, .slice a t.op.length c, .slice wa t.ws.length wc]) o wx hx).mono fun e w' h => span_err ((errR_true q3).trans h3) h)
    have HF4 := Lib.hid (fun wx hx => (Whole_any t (.agg #[.int .i64 t.C, .int .i64 t.T, .slice a t.op.length c, .slice wa t.ws.length wc]) u wx hx).mono fun e w' h => span_err ((errR_true q4).trans h3) h)
    clear h3 he hval hr q1 q2 q3 q4 q5 q6 q7 f5
    go_enter Try.func8, Try.ntmps8
    go_wp2_with fail
    refine (HR.out _ (HV.out.bel (by repeat (first | assumption | exact Bel.refl _ | refine Bel.drew ?_ | refine Bel.drewN ?_ _ | refine Bel.alloc ?_ _ | refine Bel.setCell ?_ (by simp <;> omega) _ | refine Bel.trans ?_ (by assumption))))).mono ?_
    rintro e w1 ⟨rfl, hb⟩
    have x0 : w1.cell? ⟨w.heap.size, 0, none⟩ = some (.int .i64 t.C) := hb.cell ((row_facts (new_row (by first | rfl | (simp; done)))).1 0)
    have x1 : w1.cell? ⟨w.heap.size, 1, none⟩ = some (.int .i64 t.T) := hb.cell ((row_facts (new_row (by first | rfl | (simp; done)))).1 1)
    have x2 : w1.cell? ⟨w.heap.size, 2, none⟩ = some (.slice a t.op.length c) := hb.cell ((row_facts (new_row (by first | rfl | (simp; done)))).1 2)
    have x3 : w1.cell? ⟨w.heap.size, 3, none⟩ = some (.slice wa t.ws.length wc) := hb.cell ((row_facts (new_row (by first | rfl | (simp; done)))).1 3)
    have hB1 : Bel w w1 := Bel.trans (by repeat (first | assumption | exact Bel.refl _ | refine Bel.drew ?_ | refine Bel.drewN ?_ _ | refine Bel.alloc ?_ _ | refine Bel.setCell ?_ (by simp <;> omega) _ | refine Bel.trans ?_ (by assumption))) hb
    have lx0 := cell_lt x0
    replace HV := Lib.hid (HV.out.bel hB1)
    clear hb
    go_wp2_with fail
    refine (HF1.out _ (HV.out.bel (by repeat (first | assumption | exact Bel.refl _ | refine Bel.drew ?_ | refine Bel.drewN ?_ _ | refine Bel.alloc ?_ _ | refine Bel.setCell ?_ (by simp <;> omega) _ | refine Bel.trans ?_ (by assumption))))).mono ?_
    rintro e w2 ⟨rfl, hb⟩
    have hk : Bel w1 w2 := Bel.trans (by repeat (first | assumption | exact Bel.refl _ | refine Bel.drew ?_ | refine Bel.drewN ?_ _ | refine Bel.alloc ?_ _ | refine Bel.setCell ?_ (by simp <;> omega) _ | refine Bel.trans ?_ (by assumption))) hb
    replace x0 := hk.cell x0
    replace x1 := hk.cell x1
    replace x2 := hk.cell x2
    replace x3 := hk.cell x3
    have lx0 := cell_lt x0
    have hB2 : Bel w w2 := hB1.trans hk
    replace HV := Lib.hid (HV.out.bel hk)
    clear hb hk hB1
    go_wp2_with fail
    refine (HF2.out _ (HV.out.bel (by repeat (first | assumption | exact Bel.refl _ | refine Bel.drew ?_ | refine Bel.drewN ?_ _ | refine Bel.alloc ?_ _ | refine Bel.setCell ?_ (by simp <;> omega) _ | refine Bel.trans ?_ (by assumption))))).mono ?_
    rintro e w3 ⟨rfl, hb⟩
    have s0 : w3.cell? ⟨w2.heap.size, 0, none⟩ = some (.int .i64 0) := hb.cell ((row_facts (new_row (by first | rfl | (simp; done)))).1 0)
    have s1 : w3.cell? ⟨w2.heap.size, 1, none⟩ = some (.int .i64 0) := hb.cell ((row_facts (new_row (by first | rfl | (simp; done)))).1 1)
    have hk : Bel w2 w3 := Bel.trans (by repeat (first | assumption | exact Bel.refl _ | refine Bel.drew ?_ | refine Bel.drewN ?_ _ | refine Bel.alloc ?_ _ | refine Bel.setCell ?_ (by simp <;> omega) _ | refine Bel.trans ?_ (by assumption))) hb
    replace x0 := hk.cell x0
    replace x1 := hk.cell x1
    replace x2 := hk.cell x2
    replace x3 := hk.cell x3
    have lx0 := cell_lt x0
    have ls0 := cell_lt s0
    have hB3 : Bel w w3 := hB2.trans hk
    replace HV := Lib.hid (HV.out.bel hk)
    clear hb hk hB2
    go_wp2_with fail
    refine (HF3.out _ (HV.out.bel (by repeat (first | assumption | exact Bel.refl _ | refine Bel.drew ?_ | refine Bel.drewN ?_ _ | refine Bel.alloc ?_ _ | refine Bel.setCell ?_ (by simp <;> omega) _ | refine Bel.trans ?_ (by assumption))))).mono ?_
    rintro e w4 ⟨rfl, hb⟩
    have t0 : w4.cell? ⟨w3.heap.size, 0, none⟩ = some (.int .i64 0) := hb.cell ((row_facts (new_row (by first | rfl | (simp; done)))).1 0)
    have t1 : w4.cell? ⟨w3.heap.size, 1, none⟩ = some (.int .i64 0) := hb.cell ((row_facts (new_row (by first | rfl | (simp; done)))).1 1)
    have hk : Bel w3 w4 := Bel.trans (by repeat (first | assumption | exact Bel.refl _ | refine Bel.drew ?_ | refine Bel.drewN ?_ _ | refine Bel.alloc ?_ _ | refine Bel.setCell ?_ (by simp <;> omega) _ | refine Bel.trans ?_ (by assumption))) hb
    replace x0 := hk.cell x0
    replace x1 := hk.cell x1
    replace x2 := hk.cell x2
    replace x3 := hk.cell x3
    replace s0 := hk.cell s0
    replace s1 := hk.cell s1
    have lx0 := cell_lt x0
    have ls0 := cell_lt s0
    have lt0 := cell_lt t0
    have hB4 : Bel w w4 := hB3.trans hk
    replace HV := Lib.hid (HV.out.bel hk)
    clear hb hk hB3
    go_wp2_with fail
    refine (HF4.out _ (HV.out.bel (by repeat (first | assumption | exact Bel.refl _ | refine Bel.drew ?_ | refine Bel.drewN ?_ _ | refine Bel.alloc ?_ _ | refine Bel.setCell ?_ (by simp <;> omega) _ | refine Bel.trans ?_ (by assumption))))).mono ?_
    rintro e w5 ⟨rfl, hb⟩
    have u0 : w5.cell? ⟨w4.heap.size, 0, none⟩ = some (.int .i64 0) := hb.cell ((row_facts (new_row (by first | rfl | (simp; done)))).1 0)
    have u1 : w5.cell? ⟨w4.heap.size, 1, none⟩ = some (.int .i64 0) := hb.cell ((row_facts (new_row (by first | rfl | (simp; done)))).1 1)
    have hk : Bel w4 w5 := Bel.trans (by repeat (first | assumption | exact Bel.refl _ | refine Bel.drew ?_ | refine Bel.drewN ?_ _ | refine Bel.alloc ?_ _ | refine Bel.setCell ?_ (by simp <;> omega) _ | refine Bel.trans ?_ (by assumption))) hb
    replace x0 := hk.cell x0
    replace x1 := hk.cell x1
    replace x2 := hk.cell x2
    replace x3 := hk.cell x3
    replace s0 := hk.cell s0
    replace s1 := hk.cell s1
    replace t0 := hk.cell t0
    replace t1 := hk.cell t1
    have lx0 := cell_lt x0
    have ls0 := cell_lt s0
    have lt0 := cell_lt t0
    have lu0 := cell_lt u0
    have hB5 : Bel w w5 := hB4.trans hk
    replace HV := Lib.hid (HV.out.bel hk)
    clear hb hk hB4
    go_wp2_with fail
    refine (works_any _).mono ?_
    rintro e w6 ⟨rfl, hb⟩
    go_wp2
    go_ret
    exact ⟨rfl, hB5.trans (Bel.trans (by repeat (first | assumption | exact Bel.refl _ | refine Bel.drew ?_ | refine Bel.drewN ?_ _ | refine Bel.alloc ?_ _ | refine Bel.setCell ?_ (by simp <;> omega) _ | refine Bel.trans ?_ (by assumption))) hb)⟩
  obtain ⟨⟨k1, k2, k3, k4⟩, ⟨k5, k6⟩, ⟨k7, k8⟩, k9, k10, k11⟩ := time_law he g0 g1 g2 g3
  have HF1 := Lib.hid (fun wx hx => (Fish_any t (.agg #[.int .i64 t.C, .int .i64 t.T, .slice a t.op.length c, .slice wa t.ws.length wc]) o (t.C - 1) wx hx).mono fun e w' h => span_ok ((errR_true q1).trans he) rfl rfl h)
  have HF2 := Lib.hid (fun wx hx => (Fish_any t (.agg #[.int .i64 t.C, .int .i64 t.T, .slice a t.op.length c, .slice wa t.ws.length wc]) u (t.C - 1) wx hx).mono fun e w' h => span_ok ((errR_true q2).trans he) rfl rfl h)
  have HF3 := Lib.hid (fun wx hx => (Whole_any t (.agg #[.int .i64 t.C, .int .i64 t.T, .slice a t.op.length c, .slice wa t.ws.length wc]) o wx hx).mono fun e w' h => span_ok ((errR_true q3).trans he) rfl rfl h)
  have HF4 := Lib.hid (fun wx hx => (Whole_any t (.agg #[.int .i64 t.C, .int .i64 t.T, .slice a t.op.length c, .slice wa t.ws.length wc]) u wx hx).mono fun e w' h => span_ok ((errR_true q4).trans he) rfl rfl h)
  have HF5 := Lib.hid (fun wx hx => (Came_any t (.agg #[.int .i64 t.C, .int .i64 t.T, .slice a t.op.length c, .slice wa t.ws.length wc]) o u wx hx).mono fun e w' h => span_ok ((errR_true q5).trans he) rfl rfl h)
  have HF6 := Lib.hid (fun wx hx => (Came_any t (.agg #[.int .i64 t.C, .int .i64 t.T, .slice a t.op.length c, .slice wa t.ws.length wc]) u r wx hx).mono fun e w' h => span_ok ((errR_true q6).trans he) rfl rfl h)
  have HF7 := Lib.hid (fun wx hx => (Came_any t (.agg #[.int .i64 t.C, .int .i64 t.T, .slice a t.op.length c, .slice wa t.ws.length wc]) o r wx hx).mono fun e w' h => span_ok ((errR_true q7).trans he) rfl rfl h)
  generalize fishLo t o (t.C - 1) = a1 at *
  generalize fishHi t o (t.C - 1) = a2 at *
  generalize fishLo t u (t.C - 1) = b1 at *
  generalize fishHi t u (t.C - 1) = b2 at *
  generalize wholeLo t o = c1 at *
  generalize wholeHi t o = c2 at *
  generalize wholeLo t u = d1 at *
  generalize wholeHi t u = d2 at *
  generalize cameLo t o u = s1 at *
  generalize cameHi t o u = s2 at *
  generalize cameLo t u r = t1 at *
  generalize cameHi t u r = t2 at *
  generalize cameLo t o r = v1 at *
  generalize cameHi t o r = v2 at *
  have HIN := Lib.hid (fun wx => (inside_any v1 v2 (s1 + t1) (s2 + t2) wx).mono (R' := fun e w' => e = .returned (.bool true) ∧ Bel wx w') fun e w' h => ⟨h.1.trans (by simp; omega), h.2⟩)
  have w1a : IntKind.i64.wrap (s1 + t1) = s1 + t1 := IntWalk.i64_in _ (by omega)
  have w2a : IntKind.i64.wrap (s2 + t2) = s2 + t2 := IntWalk.i64_in _ (by omega)
  have b1a : ¬ b1 < a1 := by omega
  have b2a : ¬ b2 < a2 := by omega
  have b3a : ¬ d1 < c1 := by omega
  have b4a : ¬ d2 < c2 := by omega
  clear he hval hr q1 q2 q3 q4 q5 q6 q7 f5
  go_enter Try.func8, Try.ntmps8
  go_wp2_with fail
  refine (HR.out _ (HV.out.bel (by repeat (first | assumption | exact Bel.refl _ | refine Bel.drew ?_ | refine Bel.drewN ?_ _ | refine Bel.alloc ?_ _ | refine Bel.setCell ?_ (by simp <;> omega) _ | refine Bel.trans ?_ (by assumption))))).mono ?_
  rintro e w1 ⟨rfl, hb⟩
  have x0 : w1.cell? ⟨w.heap.size, 0, none⟩ = some (.int .i64 t.C) := hb.cell ((row_facts (new_row (by first | rfl | (simp; done)))).1 0)
  have x1 : w1.cell? ⟨w.heap.size, 1, none⟩ = some (.int .i64 t.T) := hb.cell ((row_facts (new_row (by first | rfl | (simp; done)))).1 1)
  have x2 : w1.cell? ⟨w.heap.size, 2, none⟩ = some (.slice a t.op.length c) := hb.cell ((row_facts (new_row (by first | rfl | (simp; done)))).1 2)
  have x3 : w1.cell? ⟨w.heap.size, 3, none⟩ = some (.slice wa t.ws.length wc) := hb.cell ((row_facts (new_row (by first | rfl | (simp; done)))).1 3)
  have hB1 : Bel w w1 := Bel.trans (by repeat (first | assumption | exact Bel.refl _ | refine Bel.drew ?_ | refine Bel.drewN ?_ _ | refine Bel.alloc ?_ _ | refine Bel.setCell ?_ (by simp <;> omega) _ | refine Bel.trans ?_ (by assumption))) hb
  have lx0 := cell_lt x0
  replace HV := Lib.hid (HV.out.bel hB1)
  clear hb
  go_wp2_with fail
  refine (HF1.out _ (HV.out.bel (by repeat (first | assumption | exact Bel.refl _ | refine Bel.drew ?_ | refine Bel.drewN ?_ _ | refine Bel.alloc ?_ _ | refine Bel.setCell ?_ (by simp <;> omega) _ | refine Bel.trans ?_ (by assumption))))).mono ?_
  rintro e w2 ⟨rfl, hb⟩
  have hk : Bel w1 w2 := Bel.trans (by repeat (first | assumption | exact Bel.refl _ | refine Bel.drew ?_ | refine Bel.drewN ?_ _ | refine Bel.alloc ?_ _ | refine Bel.setCell ?_ (by simp <;> omega) _ | refine Bel.trans ?_ (by assumption))) hb
  replace x0 := hk.cell x0
  replace x1 := hk.cell x1
  replace x2 := hk.cell x2
  replace x3 := hk.cell x3
  have lx0 := cell_lt x0
  have hB2 : Bel w w2 := hB1.trans hk
  replace HV := Lib.hid (HV.out.bel hk)
  clear hb hk hB1
  go_wp2_with fail
  refine (HF2.out _ (HV.out.bel (by repeat (first | assumption | exact Bel.refl _ | refine Bel.drew ?_ | refine Bel.drewN ?_ _ | refine Bel.alloc ?_ _ | refine Bel.setCell ?_ (by simp <;> omega) _ | refine Bel.trans ?_ (by assumption))))).mono ?_
  rintro e w3 ⟨rfl, hb⟩
  have aa0 : w3.cell? ⟨w2.heap.size, 0, none⟩ = some (.int .i64 a1) := hb.cell ((row_facts (new_row (by first | rfl | (simp; done)))).1 0)
  have aa1 : w3.cell? ⟨w2.heap.size, 1, none⟩ = some (.int .i64 a2) := hb.cell ((row_facts (new_row (by first | rfl | (simp; done)))).1 1)
  have hk : Bel w2 w3 := Bel.trans (by repeat (first | assumption | exact Bel.refl _ | refine Bel.drew ?_ | refine Bel.drewN ?_ _ | refine Bel.alloc ?_ _ | refine Bel.setCell ?_ (by simp <;> omega) _ | refine Bel.trans ?_ (by assumption))) hb
  replace x0 := hk.cell x0
  replace x1 := hk.cell x1
  replace x2 := hk.cell x2
  replace x3 := hk.cell x3
  have lx0 := cell_lt x0
  have laa0 := cell_lt aa0
  have hB3 : Bel w w3 := hB2.trans hk
  replace HV := Lib.hid (HV.out.bel hk)
  clear hb hk hB2
  go_wp2_with fail
  refine (HF3.out _ (HV.out.bel (by repeat (first | assumption | exact Bel.refl _ | refine Bel.drew ?_ | refine Bel.drewN ?_ _ | refine Bel.alloc ?_ _ | refine Bel.setCell ?_ (by simp <;> omega) _ | refine Bel.trans ?_ (by assumption))))).mono ?_
  rintro e w4 ⟨rfl, hb⟩
  have bb0 : w4.cell? ⟨w3.heap.size, 0, none⟩ = some (.int .i64 b1) := hb.cell ((row_facts (new_row (by first | rfl | (simp; done)))).1 0)
  have bb1 : w4.cell? ⟨w3.heap.size, 1, none⟩ = some (.int .i64 b2) := hb.cell ((row_facts (new_row (by first | rfl | (simp; done)))).1 1)
  have hk : Bel w3 w4 := Bel.trans (by repeat (first | assumption | exact Bel.refl _ | refine Bel.drew ?_ | refine Bel.drewN ?_ _ | refine Bel.alloc ?_ _ | refine Bel.setCell ?_ (by simp <;> omega) _ | refine Bel.trans ?_ (by assumption))) hb
  replace x0 := hk.cell x0
  replace x1 := hk.cell x1
  replace x2 := hk.cell x2
  replace x3 := hk.cell x3
  replace aa0 := hk.cell aa0
  replace aa1 := hk.cell aa1
  have lx0 := cell_lt x0
  have laa0 := cell_lt aa0
  have lbb0 := cell_lt bb0
  have hB4 : Bel w w4 := hB3.trans hk
  replace HV := Lib.hid (HV.out.bel hk)
  clear hb hk hB3
  go_wp2_with fail
  refine (HF4.out _ (HV.out.bel (by repeat (first | assumption | exact Bel.refl _ | refine Bel.drew ?_ | refine Bel.drewN ?_ _ | refine Bel.alloc ?_ _ | refine Bel.setCell ?_ (by simp <;> omega) _ | refine Bel.trans ?_ (by assumption))))).mono ?_
  rintro e w5 ⟨rfl, hb⟩
  have cc0 : w5.cell? ⟨w4.heap.size, 0, none⟩ = some (.int .i64 c1) := hb.cell ((row_facts (new_row (by first | rfl | (simp; done)))).1 0)
  have cc1 : w5.cell? ⟨w4.heap.size, 1, none⟩ = some (.int .i64 c2) := hb.cell ((row_facts (new_row (by first | rfl | (simp; done)))).1 1)
  have hk : Bel w4 w5 := Bel.trans (by repeat (first | assumption | exact Bel.refl _ | refine Bel.drew ?_ | refine Bel.drewN ?_ _ | refine Bel.alloc ?_ _ | refine Bel.setCell ?_ (by simp <;> omega) _ | refine Bel.trans ?_ (by assumption))) hb
  replace x0 := hk.cell x0
  replace x1 := hk.cell x1
  replace x2 := hk.cell x2
  replace x3 := hk.cell x3
  replace aa0 := hk.cell aa0
  replace aa1 := hk.cell aa1
  replace bb0 := hk.cell bb0
  replace bb1 := hk.cell bb1
  have lx0 := cell_lt x0
  have laa0 := cell_lt aa0
  have lbb0 := cell_lt bb0
  have lcc0 := cell_lt cc0
  have hB5 : Bel w w5 := hB4.trans hk
  replace HV := Lib.hid (HV.out.bel hk)
  clear hb hk hB4
  go_wp2_with fail
  refine (HF5.out _ (HV.out.bel (by repeat (first | assumption | exact Bel.refl _ | refine Bel.drew ?_ | refine Bel.drewN ?_ _ | refine Bel.alloc ?_ _ | refine Bel.setCell ?_ (by simp <;> omega) _ | refine Bel.trans ?_ (by assumption))))).mono ?_
  rintro e w6 ⟨rfl, hb⟩
  have dd0 : w6.cell? ⟨w5.heap.size, 0, none⟩ = some (.int .i64 d1) := hb.cell ((row_facts (new_row (by first | rfl | (simp; done)))).1 0)
  have dd1 : w6.cell? ⟨w5.heap.size, 1, none⟩ = some (.int .i64 d2) := hb.cell ((row_facts (new_row (by first | rfl | (simp; done)))).1 1)
  have hk : Bel w5 w6 := Bel.trans (by repeat (first | assumption | exact Bel.refl _ | refine Bel.drew ?_ | refine Bel.drewN ?_ _ | refine Bel.alloc ?_ _ | refine Bel.setCell ?_ (by simp <;> omega) _ | refine Bel.trans ?_ (by assumption))) hb
  replace x0 := hk.cell x0
  replace x1 := hk.cell x1
  replace x2 := hk.cell x2
  replace x3 := hk.cell x3
  replace aa0 := hk.cell aa0
  replace aa1 := hk.cell aa1
  replace bb0 := hk.cell bb0
  replace bb1 := hk.cell bb1
  replace cc0 := hk.cell cc0
  replace cc1 := hk.cell cc1
  have lx0 := cell_lt x0
  have laa0 := cell_lt aa0
  have lbb0 := cell_lt bb0
  have lcc0 := cell_lt cc0
  have ldd0 := cell_lt dd0
  have hB6 : Bel w w6 := hB5.trans hk
  replace HV := Lib.hid (HV.out.bel hk)
  clear hb hk hB5
  go_wp2_with fail
  refine (HF6.out _ (HV.out.bel (by repeat (first | assumption | exact Bel.refl _ | refine Bel.drew ?_ | refine Bel.drewN ?_ _ | refine Bel.alloc ?_ _ | refine Bel.setCell ?_ (by simp <;> omega) _ | refine Bel.trans ?_ (by assumption))))).mono ?_
  rintro e w7 ⟨rfl, hb⟩
  have ss0 : w7.cell? ⟨w6.heap.size, 0, none⟩ = some (.int .i64 s1) := hb.cell ((row_facts (new_row (by first | rfl | (simp; done)))).1 0)
  have ss1 : w7.cell? ⟨w6.heap.size, 1, none⟩ = some (.int .i64 s2) := hb.cell ((row_facts (new_row (by first | rfl | (simp; done)))).1 1)
  have hk : Bel w6 w7 := Bel.trans (by repeat (first | assumption | exact Bel.refl _ | refine Bel.drew ?_ | refine Bel.drewN ?_ _ | refine Bel.alloc ?_ _ | refine Bel.setCell ?_ (by simp <;> omega) _ | refine Bel.trans ?_ (by assumption))) hb
  replace x0 := hk.cell x0
  replace x1 := hk.cell x1
  replace x2 := hk.cell x2
  replace x3 := hk.cell x3
  replace aa0 := hk.cell aa0
  replace aa1 := hk.cell aa1
  replace bb0 := hk.cell bb0
  replace bb1 := hk.cell bb1
  replace cc0 := hk.cell cc0
  replace cc1 := hk.cell cc1
  replace dd0 := hk.cell dd0
  replace dd1 := hk.cell dd1
  have lx0 := cell_lt x0
  have laa0 := cell_lt aa0
  have lbb0 := cell_lt bb0
  have lcc0 := cell_lt cc0
  have ldd0 := cell_lt dd0
  have lss0 := cell_lt ss0
  have hB7 : Bel w w7 := hB6.trans hk
  replace HV := Lib.hid (HV.out.bel hk)
  clear hb hk hB6
  go_wp2_with fail
  refine (HF7.out _ (HV.out.bel (by repeat (first | assumption | exact Bel.refl _ | refine Bel.drew ?_ | refine Bel.drewN ?_ _ | refine Bel.alloc ?_ _ | refine Bel.setCell ?_ (by simp <;> omega) _ | refine Bel.trans ?_ (by assumption))))).mono ?_
  rintro e w8 ⟨rfl, hb⟩
  have tt0 : w8.cell? ⟨w7.heap.size, 0, none⟩ = some (.int .i64 t1) := hb.cell ((row_facts (new_row (by first | rfl | (simp; done)))).1 0)
  have tt1 : w8.cell? ⟨w7.heap.size, 1, none⟩ = some (.int .i64 t2) := hb.cell ((row_facts (new_row (by first | rfl | (simp; done)))).1 1)
  have hk : Bel w7 w8 := Bel.trans (by repeat (first | assumption | exact Bel.refl _ | refine Bel.drew ?_ | refine Bel.drewN ?_ _ | refine Bel.alloc ?_ _ | refine Bel.setCell ?_ (by simp <;> omega) _ | refine Bel.trans ?_ (by assumption))) hb
  replace x0 := hk.cell x0
  replace x1 := hk.cell x1
  replace x2 := hk.cell x2
  replace x3 := hk.cell x3
  replace aa0 := hk.cell aa0
  replace aa1 := hk.cell aa1
  replace bb0 := hk.cell bb0
  replace bb1 := hk.cell bb1
  replace cc0 := hk.cell cc0
  replace cc1 := hk.cell cc1
  replace dd0 := hk.cell dd0
  replace dd1 := hk.cell dd1
  replace ss0 := hk.cell ss0
  replace ss1 := hk.cell ss1
  have lx0 := cell_lt x0
  have laa0 := cell_lt aa0
  have lbb0 := cell_lt bb0
  have lcc0 := cell_lt cc0
  have ldd0 := cell_lt dd0
  have lss0 := cell_lt ss0
  have ltt0 := cell_lt tt0
  have hB8 : Bel w w8 := hB7.trans hk
  replace HV := Lib.hid (HV.out.bel hk)
  clear hb hk hB7
  clear aa0 aa1 bb0 bb1 cc0 cc1 dd0 dd1 laa0 lbb0 lcc0 ldd0 HF1 HF2 HF3 HF4 HF5 HF6 HF7
  go_wp2_with fail
  all_goals
    refine (HIN.out _).mono ?_
    rintro e w9 ⟨rfl, hb⟩
    have hB9 : Bel w w9 := hB8.trans (Bel.trans (by repeat (first | assumption | exact Bel.refl _ | refine Bel.drew ?_ | refine Bel.drewN ?_ _ | refine Bel.alloc ?_ _ | refine Bel.setCell ?_ (by simp <;> omega) _ | refine Bel.trans ?_ (by assumption))) hb)
    clear hb hB8 ss0 ss1 tt0 tt1 lss0 ltt0 x0 x1 x2 x3 lx0 HV HIN
    go_wp2_with fail
    refine (works_any _).mono ?_
    rintro e w10 ⟨rfl, hb⟩
    go_wp2
    go_ret
    exact ⟨rfl, hB9.trans (Bel.trans (by repeat (first | assumption | exact Bel.refl _ | refine Bel.drew ?_ | refine Bel.drewN ?_ _ | refine Bel.alloc ?_ _ | refine Bel.setCell ?_ (by simp <;> omega) _ | refine Bel.trans ?_ (by assumption))) hb)⟩
end Go.Proofs.Ytoiajjdhgffdaaa
