/-
  law: CountsEnough: Enough of more fish is not earlier; at its Low as many can be in the last chamber, at its High as many surely are, and not before: the call returns true for every trap and numbers, and changes nothing that was there
-/
import Derived.Test.YtoiajjdhgffdaaaWorks
import Derived.Test.YtoiajjdhgffdaaaTime
import Derived.Test.YtoiajjdhgffdaaaEnoughV
import Derived.Test.YtoiajjdhgffdaaaNarrower
import Derived.Deep.DeepCutAuto
import Derived.Deep.QuietTactic
import Derived.BigQuiet
namespace Go.Proofs.Ytoiajjdhgffdaaa
open Go Go.RowKit
set_option maxHeartbeats 8000000
set_option maxRecDepth 100000
theorem CountsEnough_eq (t : CT) (v : Value) (one other : Int) (w : World) (hv : TrapAt w v t) (hc : one = other) : Calls Try.prog 5 #[v, .int .i64 one, .int .i64 other] w fun e w' => e = .returned (.bool true) ∧ Bel w w' := by
  have HV := Lib.hid hv
  have HRT := Lib.hid (fun wx hx => ready_any t v wx hx)
  obtain ⟨ov, wv, rfl, ⟨a, c, b, off, rv, rfl, _⟩, ⟨wa, wc, wb, woff, rfl, _⟩⟩ := hv
  have HIF := Lib.hid (fun n wx => (IsFish_any n wx).mono (R' := fun e w' => e = .returned (.bool (withinB n 1 40)) ∧ Bel wx w') fun e w' h => ⟨h.1, h.2 ▸ Bel.refl _⟩)
  subst hc
  by_cases hr : readyB t = true
  rotate_left
  · have hr : readyB t = false := by simpa using hr
    rw [hr] at HRT
    go_enter Try.func5, Try.ntmps5
    go_wp2_with fail
    refine (HRT.out _ (HV.out.bel (by repeat (first | assumption | exact Bel.refl _ | refine Bel.drew ?_ | refine Bel.drewN ?_ _ | refine Bel.alloc ?_ _ | refine Bel.setCell ?_ (by simp <;> omega) _ | refine Bel.trans ?_ (by assumption))))).mono ?_
    rintro e w1 ⟨rfl, hb⟩
    have x0 : w1.cell? ⟨w.heap.size, 0, none⟩ = some (.int .i64 t.C) := hb.cell ((row_facts (new_row (by first | rfl | (simp; done)))).1 0)
    have x1 : w1.cell? ⟨w.heap.size, 1, none⟩ = some (.int .i64 t.T) := hb.cell ((row_facts (new_row (by first | rfl | (simp; done)))).1 1)
    have x2 : w1.cell? ⟨w.heap.size, 2, none⟩ = some (.slice a t.op.length c) := hb.cell ((row_facts (new_row (by first | rfl | (simp; done)))).1 2)
    have x3 : w1.cell? ⟨w.heap.size, 3, none⟩ = some (.slice wa t.ws.length wc) := hb.cell ((row_facts (new_row (by first | rfl | (simp; done)))).1 3)
    have hB1 : Bel w w1 := Bel.trans (by repeat (first | assumption | exact Bel.refl _ | refine Bel.drew ?_ | refine Bel.drewN ?_ _ | refine Bel.alloc ?_ _ | refine Bel.setCell ?_ (by simp <;> omega) _ | refine Bel.trans ?_ (by assumption))) hb
    have lx0 := cell_lt x0
    replace HV := Lib.hid (HV.out.bel hB1)
    clear hb
    go_wp2_with fail
    refine (works_any _).mono ?_
    rintro e wz ⟨rfl, hb⟩
    have HBZ := Lib.hid (hB1.trans (Bel.trans (by repeat (first | assumption | exact Bel.refl _ | refine Bel.drew ?_ | refine Bel.drewN ?_ _ | refine Bel.alloc ?_ _ | refine Bel.setCell ?_ (by simp <;> omega) _ | refine Bel.trans ?_ (by assumption))) hb))
    clear hb hB1
    go_wp2
    go_ret
    exact ⟨rfl, HBZ.out⟩
  rw [hr] at HRT
  have hval := (readyB_iff.1 hr).2
  obtain ⟨f1, f2, f3, f4, f5, _⟩ := fit_of_valid hval
  have HIO := Lib.hid (fun wx hx => IsOne_any t (.agg #[.int .i64 t.C, .int .i64 t.T, .slice a t.op.length c, .slice wa t.ws.length wc]) wx hx (fit_of_valid hval) (valid_nine hval))
  clear hr
  by_cases h1 : oneB t = true
  rotate_left
  · have h1 : oneB t = false := by simpa using h1
    rw [h1] at HIO
    clear h1 hval f5
    go_enter Try.func5, Try.ntmps5
    go_wp2_with fail
    refine (HRT.out _ (HV.out.bel (by repeat (first | assumption | exact Bel.refl _ | refine Bel.drew ?_ | refine Bel.drewN ?_ _ | refine Bel.alloc ?_ _ | refine Bel.setCell ?_ (by simp <;> omega) _ | refine Bel.trans ?_ (by assumption))))).mono ?_
    rintro e w1 ⟨rfl, hb⟩
    have x0 : w1.cell? ⟨w.heap.size, 0, none⟩ = some (.int .i64 t.C) := hb.cell ((row_facts (new_row (by first | rfl | (simp; done)))).1 0)
    have x1 : w1.cell? ⟨w.heap.size, 1, none⟩ = some (.int .i64 t.T) := hb.cell ((row_facts (new_row (by first | rfl | (simp; done)))).1 1)
    have x2 : w1.cell? ⟨w.heap.size, 2, none⟩ = some (.slice a t.op.length c) := hb.cell ((row_facts (new_row (by first | rfl | (simp; done)))).1 2)
    have x3 : w1.cell? ⟨w.heap.size, 3, none⟩ = some (.slice wa t.ws.length wc) := hb.cell ((row_facts (new_row (by first | rfl | (simp; done)))).1 3)
    have hB1 : Bel w w1 := Bel.trans (by repeat (first | assumption | exact Bel.refl _ | refine Bel.drew ?_ | refine Bel.drewN ?_ _ | refine Bel.alloc ?_ _ | refine Bel.setCell ?_ (by simp <;> omega) _ | refine Bel.trans ?_ (by assumption))) hb
    have lx0 := cell_lt x0
    replace HV := Lib.hid (HV.out.bel hB1)
    clear hb
    go_wp2_with fail
    refine (HIO.out _ (HV.out.bel (by repeat (first | assumption | exact Bel.refl _ | refine Bel.drew ?_ | refine Bel.drewN ?_ _ | refine Bel.alloc ?_ _ | refine Bel.setCell ?_ (by simp <;> omega) _ | refine Bel.trans ?_ (by assumption))))).mono ?_
    rintro e w2 ⟨rfl, hb⟩
    have hk : Bel w1 w2 := Bel.trans (by repeat (first | assumption | exact Bel.refl _ | refine Bel.drew ?_ | refine Bel.drewN ?_ _ | refine Bel.alloc ?_ _ | refine Bel.setCell ?_ (by simp <;> omega) _ | refine Bel.trans ?_ (by assumption))) hb
    replace x0 := hk.cell x0
    replace x1 := hk.cell x1
    replace x2 := hk.cell x2
    replace x3 := hk.cell x3
    have lx0 := cell_lt x0
    have hB2 : Bel w w2 := hB1.trans hk
    replace HV := Lib.hid (HV.out.bel hk)
    clear hb hk hB1
    go_wp2_with fail
    refine (works_any _).mono ?_
    rintro e wz ⟨rfl, hb⟩
    have HBZ := Lib.hid (hB2.trans (Bel.trans (by repeat (first | assumption | exact Bel.refl _ | refine Bel.drew ?_ | refine Bel.drewN ?_ _ | refine Bel.alloc ?_ _ | refine Bel.setCell ?_ (by simp <;> omega) _ | refine Bel.trans ?_ (by assumption))) hb))
    clear hb hB2
    go_wp2
    go_ret
    exact ⟨rfl, HBZ.out⟩
  rw [h1] at HIO
  have he : errR t true = 0 := errR_ok (askR_zero.2 ⟨hval, rfl⟩) (oneB_iff.1 h1)
  clear h1
  have HF1 := Lib.hid (fun wx => HIF.out one wx)
  have HF2 := Lib.hid (fun wx => HIF.out one wx)
  clear HIF
  by_cases hm1 : withinB one 1 40 = true
  rotate_left
  · have hm1 : withinB one 1 40 = false := by simpa using hm1
    rw [hm1] at HF1
    clear hm1 hval f5 he HF2
    go_enter Try.func5, Try.ntmps5
    go_wp2_with fail
    refine (HRT.out _ (HV.out.bel (by repeat (first | assumption | exact Bel.refl _ | refine Bel.drew ?_ | refine Bel.drewN ?_ _ | refine Bel.alloc ?_ _ | refine Bel.setCell ?_ (by simp <;> omega) _ | refine Bel.trans ?_ (by assumption))))).mono ?_
    rintro e w1 ⟨rfl, hb⟩
    have x0 : w1.cell? ⟨w.heap.size, 0, none⟩ = some (.int .i64 t.C) := hb.cell ((row_facts (new_row (by first | rfl | (simp; done)))).1 0)
    have x1 : w1.cell? ⟨w.heap.size, 1, none⟩ = some (.int .i64 t.T) := hb.cell ((row_facts (new_row (by first | rfl | (simp; done)))).1 1)
    have x2 : w1.cell? ⟨w.heap.size, 2, none⟩ = some (.slice a t.op.length c) := hb.cell ((row_facts (new_row (by first | rfl | (simp; done)))).1 2)
    have x3 : w1.cell? ⟨w.heap.size, 3, none⟩ = some (.slice wa t.ws.length wc) := hb.cell ((row_facts (new_row (by first | rfl | (simp; done)))).1 3)
    have hB1 : Bel w w1 := Bel.trans (by repeat (first | assumption | exact Bel.refl _ | refine Bel.drew ?_ | refine Bel.drewN ?_ _ | refine Bel.alloc ?_ _ | refine Bel.setCell ?_ (by simp <;> omega) _ | refine Bel.trans ?_ (by assumption))) hb
    have lx0 := cell_lt x0
    replace HV := Lib.hid (HV.out.bel hB1)
    clear hb
    go_wp2_with fail
    refine (HIO.out _ (HV.out.bel (by repeat (first | assumption | exact Bel.refl _ | refine Bel.drew ?_ | refine Bel.drewN ?_ _ | refine Bel.alloc ?_ _ | refine Bel.setCell ?_ (by simp <;> omega) _ | refine Bel.trans ?_ (by assumption))))).mono ?_
    rintro e w2 ⟨rfl, hb⟩
    have hk : Bel w1 w2 := Bel.trans (by repeat (first | assumption | exact Bel.refl _ | refine Bel.drew ?_ | refine Bel.drewN ?_ _ | refine Bel.alloc ?_ _ | refine Bel.setCell ?_ (by simp <;> omega) _ | refine Bel.trans ?_ (by assumption))) hb
    replace x0 := hk.cell x0
    replace x1 := hk.cell x1
    replace x2 := hk.cell x2
    replace x3 := hk.cell x3
    have lx0 := cell_lt x0
    have hB2 : Bel w w2 := hB1.trans hk
    replace HV := Lib.hid (HV.out.bel hk)
    clear hb hk hB1
    go_wp2_with fail
    refine (HF1.out _).mono ?_
    rintro e w3 ⟨rfl, hb⟩
    have hk : Bel w2 w3 := Bel.trans (by repeat (first | assumption | exact Bel.refl _ | refine Bel.drew ?_ | refine Bel.drewN ?_ _ | refine Bel.alloc ?_ _ | refine Bel.setCell ?_ (by simp <;> omega) _ | refine Bel.trans ?_ (by assumption))) hb
    replace x0 := hk.cell x0
    replace x1 := hk.cell x1
    replace x2 := hk.cell x2
    replace x3 := hk.cell x3
    have lx0 := cell_lt x0
    have hB3 : Bel w w3 := hB2.trans hk
    replace HV := Lib.hid (HV.out.bel hk)
    clear hb hk hB2
    go_wp2_with fail
    refine (works_any _).mono ?_
    rintro e wz ⟨rfl, hb⟩
    have HBZ := Lib.hid (hB3.trans (Bel.trans (by repeat (first | assumption | exact Bel.refl _ | refine Bel.drew ?_ | refine Bel.drewN ?_ _ | refine Bel.alloc ?_ _ | refine Bel.setCell ?_ (by simp <;> omega) _ | refine Bel.trans ?_ (by assumption))) hb))
    clear hb hB3
    go_wp2
    go_ret
    exact ⟨rfl, HBZ.out⟩
  rw [hm1] at HF1
  rw [hm1] at HF2
  obtain ⟨r1, r2, er, q1, q2, fr, hEN, hp1, hp2⟩ := enough_law he hm1 hm1 (Int.le_refl _)
  have HF := Lib.hid (fun wx hx => (fishL_any t (.agg #[.int .i64 t.C, .int .i64 t.T, .slice a t.op.length c, .slice wa t.ws.length wc]) wx hx hval).mono (R' := fun e w' => ∃ sv, e = .returned (.tuple #[sv, .bool true]) ∧ SpanRowsAt w' sv t.T.toNat t.C.toNat (fun i c => fishLo t i c) (fun i c => fishHi t i c) ∧ Bel wx w') fun e w' h => by
    rcases h with ⟨_, h⟩ | ⟨h, _⟩
    · exact h
    · exact absurd he h)
  have HP0 := Lib.hid (fun wx hx => (Enough_any t (.agg #[.int .i64 t.C, .int .i64 t.T, .slice a t.op.length c, .slice wa t.ws.length wc]) one wx hx).mono fun e w' h => hp1 wx e w' h)
  have HP1 := Lib.hid (fun wx hx => (Enough_any t (.agg #[.int .i64 t.C, .int .i64 t.T, .slice a t.op.length c, .slice wa t.ws.length wc]) one wx hx).mono fun e w' h => hp2 wx e w' h)
  have HTA := Lib.hid (fun n wx => IsTime_any t.C t.T n (.slice a t.op.length c) (.slice wa t.ws.length wc) wx)
  have HEN := Lib.hid hEN
  have ekT : t.T - 1 = ((t.T.toNat - 1 : Nat) : Int) := by omega
  have ekC : t.C - 1 = ((t.C.toNat - 1 : Nat) : Int) := by omega
  have hTl : t.T.toNat - 1 < t.T.toNat := by omega
  have hCl : t.C.toNat - 1 < t.C.toNat := by omega
  have hTli : ((t.T.toNat - 1 : Nat) : Int) < ((t.T.toNat : Nat) : Int) := by omega
  have hCli : ((t.C.toNat - 1 : Nat) : Int) < ((t.C.toNat : Nat) : Int) := by omega
  clear hm1 he hp1 hp2 f5 hval
  go_enter Try.func5, Try.ntmps5
  go_wp2_with fail
  refine (HRT.out _ (HV.out.bel (by repeat (first | assumption | exact Bel.refl _ | refine Bel.drew ?_ | refine Bel.drewN ?_ _ | refine Bel.alloc ?_ _ | refine Bel.setCell ?_ (by simp <;> omega) _ | refine Bel.trans ?_ (by assumption))))).mono ?_
  rintro e w1 ⟨rfl, hb⟩
  have x0 : w1.cell? ⟨w.heap.size, 0, none⟩ = some (.int .i64 t.C) := hb.cell ((row_facts (new_row (by first | rfl | (simp; done)))).1 0)
  have x1 : w1.cell? ⟨w.heap.size, 1, none⟩ = some (.int .i64 t.T) := hb.cell ((row_facts (new_row (by first | rfl | (simp; done)))).1 1)
  have x2 : w1.cell? ⟨w.heap.size, 2, none⟩ = some (.slice a t.op.length c) := hb.cell ((row_facts (new_row (by first | rfl | (simp; done)))).1 2)
  have x3 : w1.cell? ⟨w.heap.size, 3, none⟩ = some (.slice wa t.ws.length wc) := hb.cell ((row_facts (new_row (by first | rfl | (simp; done)))).1 3)
  have hB1 : Bel w w1 := Bel.trans (by repeat (first | assumption | exact Bel.refl _ | refine Bel.drew ?_ | refine Bel.drewN ?_ _ | refine Bel.alloc ?_ _ | refine Bel.setCell ?_ (by simp <;> omega) _ | refine Bel.trans ?_ (by assumption))) hb
  have lx0 := cell_lt x0
  replace HV := Lib.hid (HV.out.bel hB1)
  clear hb
  go_wp2_with fail
  refine (HIO.out _ (HV.out.bel (by repeat (first | assumption | exact Bel.refl _ | refine Bel.drew ?_ | refine Bel.drewN ?_ _ | refine Bel.alloc ?_ _ | refine Bel.setCell ?_ (by simp <;> omega) _ | refine Bel.trans ?_ (by assumption))))).mono ?_
  rintro e w2 ⟨rfl, hb⟩
  have hk : Bel w1 w2 := Bel.trans (by repeat (first | assumption | exact Bel.refl _ | refine Bel.drew ?_ | refine Bel.drewN ?_ _ | refine Bel.alloc ?_ _ | refine Bel.setCell ?_ (by simp <;> omega) _ | refine Bel.trans ?_ (by assumption))) hb
  replace x0 := hk.cell x0
  replace x1 := hk.cell x1
  replace x2 := hk.cell x2
  replace x3 := hk.cell x3
  have lx0 := cell_lt x0
  have hB2 : Bel w w2 := hB1.trans hk
  replace HV := Lib.hid (HV.out.bel hk)
  clear hb hk hB1
  go_wp2_with fail
  refine (HF1.out _).mono ?_
  rintro e w3 ⟨rfl, hb⟩
  have hk : Bel w2 w3 := Bel.trans (by repeat (first | assumption | exact Bel.refl _ | refine Bel.drew ?_ | refine Bel.drewN ?_ _ | refine Bel.alloc ?_ _ | refine Bel.setCell ?_ (by simp <;> omega) _ | refine Bel.trans ?_ (by assumption))) hb
  replace x0 := hk.cell x0
  replace x1 := hk.cell x1
  replace x2 := hk.cell x2
  replace x3 := hk.cell x3
  have lx0 := cell_lt x0
  have hB3 : Bel w w3 := hB2.trans hk
  replace HV := Lib.hid (HV.out.bel hk)
  clear hb hk hB2
  go_wp2_with fail
  refine (HF2.out _).mono ?_
  rintro e w4 ⟨rfl, hb⟩
  have hk : Bel w3 w4 := Bel.trans (by repeat (first | assumption | exact Bel.refl _ | refine Bel.drew ?_ | refine Bel.drewN ?_ _ | refine Bel.alloc ?_ _ | refine Bel.setCell ?_ (by simp <;> omega) _ | refine Bel.trans ?_ (by assumption))) hb
  replace x0 := hk.cell x0
  replace x1 := hk.cell x1
  replace x2 := hk.cell x2
  replace x3 := hk.cell x3
  have lx0 := cell_lt x0
  have hB4 : Bel w w4 := hB3.trans hk
  replace HV := Lib.hid (HV.out.bel hk)
  clear hb hk hB3
  go_wp2_with fail
  refine (HF.out _ (HV.out.bel (by repeat (first | assumption | exact Bel.refl _ | refine Bel.drew ?_ | refine Bel.drewN ?_ _ | refine Bel.alloc ?_ _ | refine Bel.setCell ?_ (by simp <;> omega) _ | refine Bel.trans ?_ (by assumption))))).mono ?_
  rintro e w5 ⟨sv, rfl, hS, hb⟩
  have hk : Bel w4 w5 := Bel.trans (by repeat (first | assumption | exact Bel.refl _ | refine Bel.drew ?_ | refine Bel.drewN ?_ _ | refine Bel.alloc ?_ _ | refine Bel.setCell ?_ (by simp <;> omega) _ | refine Bel.trans ?_ (by assumption))) hb
  replace x0 := hk.cell x0
  replace x1 := hk.cell x1
  replace x2 := hk.cell x2
  replace x3 := hk.cell x3
  have lx0 := cell_lt x0
  have hB5 : Bel w w5 := hB4.trans hk
  replace HV := Lib.hid (HV.out.bel hk)
  clear hb hk hB4
  have HS := Lib.hid hS
  clear hS
  go_wp2_with fail
  refine (HP0.out _ (HV.out.bel (by repeat (first | assumption | exact Bel.refl _ | refine Bel.drew ?_ | refine Bel.drewN ?_ _ | refine Bel.alloc ?_ _ | refine Bel.setCell ?_ (by simp <;> omega) _ | refine Bel.trans ?_ (by assumption))))).mono ?_
  rintro e w6 ⟨rfl, hb⟩
  have hk : Bel w5 w6 := Bel.trans (by repeat (first | assumption | exact Bel.refl _ | refine Bel.drew ?_ | refine Bel.drewN ?_ _ | refine Bel.alloc ?_ _ | refine Bel.setCell ?_ (by simp <;> omega) _ | refine Bel.trans ?_ (by assumption))) hb
  replace x0 := hk.cell x0
  replace x1 := hk.cell x1
  replace x2 := hk.cell x2
  replace x3 := hk.cell x3
  have lx0 := cell_lt x0
  have hB6 : Bel w w6 := hB5.trans hk
  replace HV := Lib.hid (HV.out.bel hk)
  replace HS := Lib.hid (HS.out.bel hk)
  clear hb hk hB5
  go_wp2_with fail
  refine (HP1.out _ (HV.out.bel (by repeat (first | assumption | exact Bel.refl _ | refine Bel.drew ?_ | refine Bel.drewN ?_ _ | refine Bel.alloc ?_ _ | refine Bel.setCell ?_ (by simp <;> omega) _ | refine Bel.trans ?_ (by assumption))))).mono ?_
  rintro e w7 ⟨rfl, hb⟩
  have s0 : w7.cell? ⟨w6.heap.size, 0, none⟩ = some (.int .i64 r1) := hb.cell ((row_facts (new_row (by first | rfl | (simp; done)))).1 0)
  have s1 : w7.cell? ⟨w6.heap.size, 1, none⟩ = some (.int .i64 r2) := hb.cell ((row_facts (new_row (by first | rfl | (simp; done)))).1 1)
  have hk : Bel w6 w7 := Bel.trans (by repeat (first | assumption | exact Bel.refl _ | refine Bel.drew ?_ | refine Bel.drewN ?_ _ | refine Bel.alloc ?_ _ | refine Bel.setCell ?_ (by simp <;> omega) _ | refine Bel.trans ?_ (by assumption))) hb
  replace x0 := hk.cell x0
  replace x1 := hk.cell x1
  replace x2 := hk.cell x2
  replace x3 := hk.cell x3
  have lx0 := cell_lt x0
  have ls0 := cell_lt s0
  have hB7 : Bel w w7 := hB6.trans hk
  replace HV := Lib.hid (HV.out.bel hk)
  replace HS := Lib.hid (HS.out.bel hk)
  clear hb hk hB6
  obtain ⟨b1, cap1, rv1, rfl, hr1⟩ := HS.out
  have HR1 := Lib.hid hr1
  have hix1 := idxSpanRows (c := cap1) (n := t.T.toNat) (b := b1) (off := 0) (a := some ⟨b1, 0, none⟩) (fun _ => rfl)
  obtain ⟨e1, br1, cr1, er1, hc1⟩ := hr1 (t.T.toNat - 1) (by omega)
  rw [er1] at e1
  have c1 := (hc1 (t.C.toNat - 1) (by omega)).1
  have hixa := idxSpan (c := cr1) (n := t.C.toNat) (b := br1) (off := 0) (a := some ⟨br1, 0, none⟩) (fun _ => rfl)
  simp only [] at c1
  have hif := hEN.iff
  rw [← ekC] at c1
  generalize hll : fishLo t ((t.T.toNat - 1 : Nat) : Int) (t.C - 1) = ll at *
  have le1 := cell_lt e1
  have lc1 := cell_lt c1
  clear hr1 hc1 er1 hll HF HP0 HP1 HF1 HF2 HIO HRT HS
  rcases hEN.e1 with e0 | e0
  rotate_left
  · have hfr : fr = 3 := by
      rcases hEN.e2 with q | q
      · have := (hEN.low q).1; omega
      · exact q
    have hdl : decide (one ≤ ll) = false := by simp; omega
    subst e0 hfr
    clear hEN hif
    go_wp2_with fail
    refine (works_any _).mono ?_
    rintro e wz ⟨rfl, hb⟩
    have HBZ := Lib.hid (hB7.trans (Bel.trans (by repeat (first | assumption | exact Bel.refl _ | refine Bel.drew ?_ | refine Bel.drewN ?_ _ | refine Bel.alloc ?_ _ | refine Bel.setCell ?_ (by simp <;> omega) _ | refine Bel.trans ?_ (by assumption))) hb))
    clear hb hB7
    go_wp2
    go_ret
    exact ⟨rfl, HBZ.out⟩
  have hdl : decide (one ≤ ll) = true := by simp; omega
  obtain ⟨ra1, ra2, ra3⟩ := hEN.ra e0
  have HB7 := Lib.hid hB7
  clear hB7
  go_upto_region 7 with fail
  go_cut [116] (fun s wx => s = .bool false ∧ Bel w7 wx)
  case first =>
    have hd1 : decide (one ≤ ll) = true := hdl
    rcases hEN.e2 with q | q
    · have hl := hEN.low q
      have hd2 : decide (q1 < r1) = false := by simp; omega
      have hd3 : decide (q2 < r2) = false := by simp; omega
      subst e0 q
      clear hEN hif hl
      go_wp2
      all_goals go_meet
      all_goals exact ⟨rfl, (by repeat (first | assumption | exact Bel.refl _ | refine Bel.drew ?_ | refine Bel.drewN ?_ _ | refine Bel.alloc ?_ _ | refine Bel.setCell ?_ (by simp <;> omega) _ | refine Bel.trans ?_ (by assumption)))⟩
    · subst e0 q
      clear hEN hif
      go_wp2
      all_goals go_meet
      all_goals exact ⟨rfl, (by repeat (first | assumption | exact Bel.refl _ | refine Bel.drew ?_ | refine Bel.drewN ?_ _ | refine Bel.alloc ?_ _ | refine Bel.setCell ?_ (by simp <;> omega) _ | refine Bel.trans ?_ (by assumption)))⟩
  case rest =>
    obtain ⟨rfl, hBc⟩ := hcut
    have HBC := Lib.hid hBc
    have HS := Lib.hid (And.intro s0 s1)
    have HX := Lib.hid (And.intro x0 (And.intro x1 (And.intro x2 x3)))
    replace s0 := hBc.cell s0
    replace s1 := hBc.cell s1
    replace x0 := hBc.cell x0
    replace x1 := hBc.cell x1
    replace x2 := hBc.cell x2
    replace x3 := hBc.cell x3
    subst e0
    have ht1 : isTimeB t.T r1 = true := isTimeB_mk f3 f4 (by omega)
    have ht2 : isTimeB t.T r2 = true := isTimeB_mk f3 f4 (by omega)
    have HT1 := Lib.hid (fun wx => (HTA.out r1 wx).mono (R' := fun e w' => e = .returned (.bool true) ∧ Bel wx w') fun e w' h => ⟨by rw [h.1, ht1], h.2⟩)
    have HT2 := Lib.hid (fun wx => (HTA.out r2 wx).mono (R' := fun e w' => e = .returned (.bool true) ∧ Bel wx w') fun e w' h => ⟨by rw [h.1, ht2], h.2⟩)
    have n1 : ¬ r2 < r1 := by omega
    clear hEN hif hdl e1 c1 le1 lc1 ls0 lx0 hBc hixa ht1 ht2 HTA
    go_wp2_with fail
    refine (HT1.out _).mono ?_
    rintro e w8 ⟨rfl, hb⟩
    have HB8 := Lib.hid (HBC.out.trans hb)
    clear hb x0 x1 x2 x3 s0 s1
    have x0 := HB8.out.cell HX.out.1
    have x1 := HB8.out.cell HX.out.2.1
    have x2 := HB8.out.cell HX.out.2.2.1
    have x3 := HB8.out.cell HX.out.2.2.2
    have s0 := HB8.out.cell HS.out.1
    have s1 := HB8.out.cell HS.out.2
    go_wp2_with fail
    refine (HT2.out _).mono ?_
    rintro e w9 ⟨rfl, hb⟩
    have HB9 := Lib.hid (HB8.out.trans hb)
    clear hb x0 x1 x2 x3 s0 s1
    have s0 := HB9.out.cell HS.out.1
    have s1 := HB9.out.cell HS.out.2
    go_wp2
    clear s0 s1
    go_loopw [14] (fun i wr => ∃ n : Nat, n ≤ t.T.toNat ∧ i = .int .i64 n ∧ Bel w7 wr) (fun i _ => t.T.toNat - (intOf i).toNat)
    case atStart => exact ⟨0, by omega, rfl, HB9.out⟩
    case round =>
      obtain ⟨n, hn, rfl, hB⟩ := hrel
      have HB := Lib.hid hB
      clear hB
      have x1 := HB.out.cell HX.out.2.1
      by_cases hlt : n < t.T.toNat
      · have hni : (n : Int) < t.T := by omega
        have hnT : (n : Int) < ((t.T.toNat : Nat) : Int) := by omega
        have s0 := HB.out.cell HS.out.1
        have s1 := HB.out.cell HS.out.2
        obtain ⟨e1, br1, cr1, er1, hc1⟩ := HR1.out n hlt
        rw [er1] at e1
        obtain ⟨c1, c2⟩ := hc1 (t.C.toNat - 1) (by omega)
        simp only [] at c1 c2
        have hha := HEN.out.ha rfl n hlt
        have hhb := HEN.out.hb rfl n hlt
        rw [← ekC] at c1 c2
        replace e1 := HB.out.cell e1
        replace c1 := HB.out.cell c1
        replace c2 := HB.out.cell c2
        have hixa := idxSpan (c := cr1) (n := t.C.toNat) (b := br1) (off := 0) (a := some ⟨br1, 0, none⟩) (fun _ => rfl)
        generalize fishLo t n (t.C - 1) = lo at *
        generalize fishHi t n (t.C - 1) = hi at *
        clear hc1 er1
        by_cases p1 : r1 ≤ n
        all_goals
          have d1 : decide (r1 ≤ (n : Int)) = decide (r1 ≤ (n : Int)) := rfl
          by_cases p2 : r2 ≤ n
          all_goals
            first
              | (have u1 : decide (one ≤ hi) = true := decide_eq_true (hha.2 p1); have u2 : decide (r1 ≤ (n : Int)) = true := decide_eq_true p1)
              | (have u1 : decide (one ≤ hi) = false := decide_eq_false (fun q => p1 (hha.1 q)); have u2 : decide (r1 ≤ (n : Int)) = false := decide_eq_false p1)
            first
              | (have u3 : decide (one ≤ lo) = true := decide_eq_true (hhb.2 p2); have u4 : decide (r2 ≤ (n : Int)) = true := decide_eq_true p2)
              | (have u3 : decide (one ≤ lo) = false := decide_eq_false (fun q => p2 (hhb.1 q)); have u4 : decide (r2 ≤ (n : Int)) = false := decide_eq_false p2)
            clear p1 p2 hha hhb d1
            go_wp2
            go_quiet (fail)
            go_wp2
            go_roundw
            case rel => exact ⟨n + 1, by omega, by go_num, HB.out.drewN _⟩
            case measure => simp [intOf]; omega
      · go_wp2_with fail
        refine (works_any _).mono ?_
        rintro e wz ⟨rfl, hb⟩
        have HBZ := Lib.hid (HB7.out.trans (HB.out.trans (Bel.trans (by repeat (first | assumption | exact Bel.refl _ | refine Bel.drew ?_ | refine Bel.drewN ?_ _ | refine Bel.alloc ?_ _ | refine Bel.setCell ?_ (by simp <;> omega) _ | refine Bel.trans ?_ (by assumption))) hb)))
        clear hb
        go_wp2
        go_ret
        exact ⟨rfl, HBZ.out⟩
end Go.Proofs.Ytoiajjdhgffdaaa
