/-
  law: CountsTell: Tell of no place is greater than the doubt; what is counted at the place of Ask leaves at most Tell; no other place has a lesser one: the call returns true for every trap, place and number, and changes nothing that was there
-/
import Derived.Test.YtoiajjdhgffdaaaWorks
import Derived.Test.YtoiajjdhgffdaaaTime
import Derived.Test.YtoiajjdhgffdaaaTellV
import Derived.Test.YtoiajjdhgffdaaaSmall
import Derived.Test.YtoiajjdhgffdaaaIsOne
import Derived.Test.YtoiajjdhgffdaaaTold
import Derived.Test.YtoiajjdhgffdaaaTell2
namespace Go.Proofs.Ytoiajjdhgffdaaa
open Go Go.RowKit
set_option maxHeartbeats 8000000
set_option maxRecDepth 100000
theorem lawDoubt_eq {t : CT} (hval : validB t = true) (hone : ∃ y, Sat t (-1) y) : lawDoubt t = dbtR t := by
  obtain ⟨f1, f2, f3, f4, _, _⟩ := fit_of_valid hval
  have he : errR t (isPlaceB t.C t.T (t.T - 1) (t.C - 1)) = 0 := errR_ok (askR_zero.2 ⟨hval, place_of2 (fit_of_valid hval) (by omega) (by omega) (by omega) (by omega)⟩) hone
  unfold lawDoubt
  rw [if_pos he, dbtR_eq]
theorem CountsTell_any (t : CT) (v : Value) (i k n : Int) (w : World) (hv : TrapAt w v t) : Calls Try.prog 11 #[v, .agg #[.int .i64 i, .int .i64 k], .int .i64 n] w fun e w' => e = .returned (.bool true) ∧ Bel w w' := by
  have HV := Lib.hid hv
  have HFR := Lib.hid (fun wx hx => Far_any t v wx hx)
  have HRT := Lib.hid (fun wx hx => ready_any t v wx hx)
  obtain ⟨ov, wv, rfl, ⟨a, c, b, off, rv, rfl, _⟩, ⟨wa, wc, wb, woff, rfl, _⟩⟩ := hv
  by_cases hf0 : FarB t = true
  · rw [hf0] at HFR
    clear hf0
    go_enter Try.func11, Try.ntmps11
    go_wp2_with fail
    refine (HFR.out _ (HV.out.bel (by repeat (first | assumption | exact Bel.refl _ | refine Bel.drew ?_ | refine Bel.drewN ?_ _ | refine Bel.alloc ?_ _ | refine Bel.setCell ?_ (by simp <;> omega) _ | refine Bel.trans ?_ (by assumption))))).mono ?_
    rintro e w1 ⟨rfl, hb⟩
    have x0 : w1.cell? ⟨w.heap.size, 0, none⟩ = some (.int .i64 t.C) := hb.cell ((row_facts ((heap_alloc_old _ _ (by simp <;> omega)).trans (new_row rfl))).1 0)
    have x1 : w1.cell? ⟨w.heap.size, 1, none⟩ = some (.int .i64 t.T) := hb.cell ((row_facts ((heap_alloc_old _ _ (by simp <;> omega)).trans (new_row rfl))).1 1)
    have x2 : w1.cell? ⟨w.heap.size, 2, none⟩ = some (.slice a t.op.length c) := hb.cell ((row_facts ((heap_alloc_old _ _ (by simp <;> omega)).trans (new_row rfl))).1 2)
    have x3 : w1.cell? ⟨w.heap.size, 3, none⟩ = some (.slice wa t.ws.length wc) := hb.cell ((row_facts ((heap_alloc_old _ _ (by simp <;> omega)).trans (new_row rfl))).1 3)
    have k0 : w1.cell? ⟨w.heap.size + 1, 0, none⟩ = some (.int .i64 i) := hb.cell ((row_facts (new_row (by first | rfl | (simp; done)))).1 0)
    have k1 : w1.cell? ⟨w.heap.size + 1, 1, none⟩ = some (.int .i64 k) := hb.cell ((row_facts (new_row (by first | rfl | (simp; done)))).1 1)
    have hB1 : Bel w w1 := Bel.trans (by repeat (first | assumption | exact Bel.refl _ | refine Bel.drew ?_ | refine Bel.drewN ?_ _ | refine Bel.alloc ?_ _ | refine Bel.setCell ?_ (by simp <;> omega) _ | refine Bel.trans ?_ (by assumption))) hb
    have lx0 := cell_lt x0
    have lk0 := cell_lt k0
    replace HV := Lib.hid (HV.out.bel hB1)
    clear hb
    go_wp2_with fail
    refine (works_any _).mono ?_
    rintro e wz ⟨rfl, hb⟩
    have HBZ := Lib.hid (hB1.trans (Bel.trans (by repeat (first | assumption | exact Bel.refl _ | refine Bel.drew ?_ | refine Bel.drewN ?_ _ | refine Bel.alloc ?_ _ | refine Bel.setCell ?_ (by simp <;> omega) _ | refine Bel.trans ?_ (by assumption))) hb))
    clear hb hB1
    go_wp2
    go_ret
    exact ⟨rfl, HBZ.out⟩
  have hf0 : FarB t = false := by simpa using hf0
  rw [hf0] at HFR
  by_cases hr : readyB t = true
  rotate_left
  · have hr : readyB t = false := by simpa using hr
    rw [hr] at HRT
    clear hf0 hr
    go_enter Try.func11, Try.ntmps11
    go_wp2_with fail
    refine (HFR.out _ (HV.out.bel (by repeat (first | assumption | exact Bel.refl _ | refine Bel.drew ?_ | refine Bel.drewN ?_ _ | refine Bel.alloc ?_ _ | refine Bel.setCell ?_ (by simp <;> omega) _ | refine Bel.trans ?_ (by assumption))))).mono ?_
    rintro e w1 ⟨rfl, hb⟩
    have x0 : w1.cell? ⟨w.heap.size, 0, none⟩ = some (.int .i64 t.C) := hb.cell ((row_facts ((heap_alloc_old _ _ (by simp <;> omega)).trans (new_row rfl))).1 0)
    have x1 : w1.cell? ⟨w.heap.size, 1, none⟩ = some (.int .i64 t.T) := hb.cell ((row_facts ((heap_alloc_old _ _ (by simp <;> omega)).trans (new_row rfl))).1 1)
    have x2 : w1.cell? ⟨w.heap.size, 2, none⟩ = some (.slice a t.op.length c) := hb.cell ((row_facts ((heap_alloc_old _ _ (by simp <;> omega)).trans (new_row rfl))).1 2)
    have x3 : w1.cell? ⟨w.heap.size, 3, none⟩ = some (.slice wa t.ws.length wc) := hb.cell ((row_facts ((heap_alloc_old _ _ (by simp <;> omega)).trans (new_row rfl))).1 3)
    have k0 : w1.cell? ⟨w.heap.size + 1, 0, none⟩ = some (.int .i64 i) := hb.cell ((row_facts (new_row (by first | rfl | (simp; done)))).1 0)
    have k1 : w1.cell? ⟨w.heap.size + 1, 1, none⟩ = some (.int .i64 k) := hb.cell ((row_facts (new_row (by first | rfl | (simp; done)))).1 1)
    have hB1 : Bel w w1 := Bel.trans (by repeat (first | assumption | exact Bel.refl _ | refine Bel.drew ?_ | refine Bel.drewN ?_ _ | refine Bel.alloc ?_ _ | refine Bel.setCell ?_ (by simp <;> omega) _ | refine Bel.trans ?_ (by assumption))) hb
    have lx0 := cell_lt x0
    have lk0 := cell_lt k0
    replace HV := Lib.hid (HV.out.bel hB1)
    clear hb
    go_wp2_with fail
    refine (HRT.out _ (HV.out.bel (by repeat (first | assumption | exact Bel.refl _ | refine Bel.drew ?_ | refine Bel.drewN ?_ _ | refine Bel.alloc ?_ _ | refine Bel.setCell ?_ (by simp <;> omega) _ | refine Bel.trans ?_ (by assumption))))).mono ?_
    rintro e w2 ⟨rfl, hb⟩
    have hk : Bel w1 w2 := Bel.trans (by repeat (first | assumption | exact Bel.refl _ | refine Bel.drew ?_ | refine Bel.drewN ?_ _ | refine Bel.alloc ?_ _ | refine Bel.setCell ?_ (by simp <;> omega) _ | refine Bel.trans ?_ (by assumption))) hb
    replace x0 := hk.cell x0
    replace x1 := hk.cell x1
    replace x2 := hk.cell x2
    replace x3 := hk.cell x3
    replace k0 := hk.cell k0
    replace k1 := hk.cell k1
    have lx0 := cell_lt x0
    have lk0 := cell_lt k0
    have hB2 : Bel w w2 := hB1.trans hk
    replace HV := Lib.hid (HV.out.bel hk)
    clear hb hk hB1
    go_wp2_with fail
    refine (works_any _).mono ?_
    rintro e wz ⟨rfl, hb⟩
    have HBZ := Lib.hid (hB2.trans (Bel.trans (by repeat (first | assumption | exact Bel.refl _ | refine Bel.drew ?_ | refine Bel.drewN ?_ _ | refine Bel.alloc ?_ _ | refine Bel.setCell ?_ (by simp <;> omega) _ | refine Bel.trans ?_ (by assumption))) hb))
    clear hb hB2
    go_wp2
    go_ret
    exact ⟨rfl, HBZ.out⟩
  rw [hr] at HRT
  have hval := (readyB_iff.1 hr).2
  have hroom : Room t := room_small (readyB_iff.1 hr).1
  have hf := fit_of_valid hval
  have hw8 : t.ws.length ≤ 8 := (validB_bounds hval).2.2.2.1
  clear hf0 hr
  by_cases h8 : t.ws.length = 8
  · have h8b : ((t.ws.length : Int) == 8) = true := by rw [beq_iff_eq]; omega
    clear h8 hval hroom hf
    go_enter Try.func11, Try.ntmps11
    go_wp2_with fail
    refine (HFR.out _ (HV.out.bel (by repeat (first | assumption | exact Bel.refl _ | refine Bel.drew ?_ | refine Bel.drewN ?_ _ | refine Bel.alloc ?_ _ | refine Bel.setCell ?_ (by simp <;> omega) _ | refine Bel.trans ?_ (by assumption))))).mono ?_
    rintro e w1 ⟨rfl, hb⟩
    have x0 : w1.cell? ⟨w.heap.size, 0, none⟩ = some (.int .i64 t.C) := hb.cell ((row_facts ((heap_alloc_old _ _ (by simp <;> omega)).trans (new_row rfl))).1 0)
    have x1 : w1.cell? ⟨w.heap.size, 1, none⟩ = some (.int .i64 t.T) := hb.cell ((row_facts ((heap_alloc_old _ _ (by simp <;> omega)).trans (new_row rfl))).1 1)
    have x2 : w1.cell? ⟨w.heap.size, 2, none⟩ = some (.slice a t.op.length c) := hb.cell ((row_facts ((heap_alloc_old _ _ (by simp <;> omega)).trans (new_row rfl))).1 2)
    have x3 : w1.cell? ⟨w.heap.size, 3, none⟩ = some (.slice wa t.ws.length wc) := hb.cell ((row_facts ((heap_alloc_old _ _ (by simp <;> omega)).trans (new_row rfl))).1 3)
    have k0 : w1.cell? ⟨w.heap.size + 1, 0, none⟩ = some (.int .i64 i) := hb.cell ((row_facts (new_row (by first | rfl | (simp; done)))).1 0)
    have k1 : w1.cell? ⟨w.heap.size + 1, 1, none⟩ = some (.int .i64 k) := hb.cell ((row_facts (new_row (by first | rfl | (simp; done)))).1 1)
    have hB1 : Bel w w1 := Bel.trans (by repeat (first | assumption | exact Bel.refl _ | refine Bel.drew ?_ | refine Bel.drewN ?_ _ | refine Bel.alloc ?_ _ | refine Bel.setCell ?_ (by simp <;> omega) _ | refine Bel.trans ?_ (by assumption))) hb
    have lx0 := cell_lt x0
    have lk0 := cell_lt k0
    replace HV := Lib.hid (HV.out.bel hB1)
    clear hb
    go_wp2_with fail
    refine (HRT.out _ (HV.out.bel (by repeat (first | assumption | exact Bel.refl _ | refine Bel.drew ?_ | refine Bel.drewN ?_ _ | refine Bel.alloc ?_ _ | refine Bel.setCell ?_ (by simp <;> omega) _ | refine Bel.trans ?_ (by assumption))))).mono ?_
    rintro e w2 ⟨rfl, hb⟩
    have hk : Bel w1 w2 := Bel.trans (by repeat (first | assumption | exact Bel.refl _ | refine Bel.drew ?_ | refine Bel.drewN ?_ _ | refine Bel.alloc ?_ _ | refine Bel.setCell ?_ (by simp <;> omega) _ | refine Bel.trans ?_ (by assumption))) hb
    replace x0 := hk.cell x0
    replace x1 := hk.cell x1
    replace x2 := hk.cell x2
    replace x3 := hk.cell x3
    replace k0 := hk.cell k0
    replace k1 := hk.cell k1
    have lx0 := cell_lt x0
    have lk0 := cell_lt k0
    have hB2 : Bel w w2 := hB1.trans hk
    replace HV := Lib.hid (HV.out.bel hk)
    clear hb hk hB1
    go_wp2_with fail
    refine (works_any _).mono ?_
    rintro e wz ⟨rfl, hb⟩
    have HBZ := Lib.hid (hB2.trans (Bel.trans (by repeat (first | assumption | exact Bel.refl _ | refine Bel.drew ?_ | refine Bel.drewN ?_ _ | refine Bel.alloc ?_ _ | refine Bel.setCell ?_ (by simp <;> omega) _ | refine Bel.trans ?_ (by assumption))) hb))
    clear hb hB2
    go_wp2
    go_ret
    exact ⟨rfl, HBZ.out⟩
  have h8b : ((t.ws.length : Int) == 8) = false := by rw [beq_eq_false_iff_ne]; omega
  have h7 : t.ws.length ≤ 7 := by omega
  clear h8
  have HIO := Lib.hid (fun wx hx => IsOne_any t (.agg #[.int .i64 t.C, .int .i64 t.T, .slice a t.op.length c, .slice wa t.ws.length wc]) wx hx hf (valid_nine hval))
  by_cases h1 : oneB t = true
  rotate_left
  · have h1 : oneB t = false := by simpa using h1
    rw [h1] at HIO
    clear h1 hval hf hroom
    go_enter Try.func11, Try.ntmps11
    go_wp2_with fail
    refine (HFR.out _ (HV.out.bel (by repeat (first | assumption | exact Bel.refl _ | refine Bel.drew ?_ | refine Bel.drewN ?_ _ | refine Bel.alloc ?_ _ | refine Bel.setCell ?_ (by simp <;> omega) _ | refine Bel.trans ?_ (by assumption))))).mono ?_
    rintro e w1 ⟨rfl, hb⟩
    have x0 : w1.cell? ⟨w.heap.size, 0, none⟩ = some (.int .i64 t.C) := hb.cell ((row_facts ((heap_alloc_old _ _ (by simp <;> omega)).trans (new_row rfl))).1 0)
    have x1 : w1.cell? ⟨w.heap.size, 1, none⟩ = some (.int .i64 t.T) := hb.cell ((row_facts ((heap_alloc_old _ _ (by simp <;> omega)).trans (new_row rfl))).1 1)
    have x2 : w1.cell? ⟨w.heap.size, 2, none⟩ = some (.slice a t.op.length c) := hb.cell ((row_facts ((heap_alloc_old _ _ (by simp <;> omega)).trans (new_row rfl))).1 2)
    have x3 : w1.cell? ⟨w.heap.size, 3, none⟩ = some (.slice wa t.ws.length wc) := hb.cell ((row_facts ((heap_alloc_old _ _ (by simp <;> omega)).trans (new_row rfl))).1 3)
    have k0 : w1.cell? ⟨w.heap.size + 1, 0, none⟩ = some (.int .i64 i) := hb.cell ((row_facts (new_row (by first | rfl | (simp; done)))).1 0)
    have k1 : w1.cell? ⟨w.heap.size + 1, 1, none⟩ = some (.int .i64 k) := hb.cell ((row_facts (new_row (by first | rfl | (simp; done)))).1 1)
    have hB1 : Bel w w1 := Bel.trans (by repeat (first | assumption | exact Bel.refl _ | refine Bel.drew ?_ | refine Bel.drewN ?_ _ | refine Bel.alloc ?_ _ | refine Bel.setCell ?_ (by simp <;> omega) _ | refine Bel.trans ?_ (by assumption))) hb
    have lx0 := cell_lt x0
    have lk0 := cell_lt k0
    replace HV := Lib.hid (HV.out.bel hB1)
    clear hb
    go_wp2_with fail
    refine (HRT.out _ (HV.out.bel (by repeat (first | assumption | exact Bel.refl _ | refine Bel.drew ?_ | refine Bel.drewN ?_ _ | refine Bel.alloc ?_ _ | refine Bel.setCell ?_ (by simp <;> omega) _ | refine Bel.trans ?_ (by assumption))))).mono ?_
    rintro e w2 ⟨rfl, hb⟩
    have hk : Bel w1 w2 := Bel.trans (by repeat (first | assumption | exact Bel.refl _ | refine Bel.drew ?_ | refine Bel.drewN ?_ _ | refine Bel.alloc ?_ _ | refine Bel.setCell ?_ (by simp <;> omega) _ | refine Bel.trans ?_ (by assumption))) hb
    replace x0 := hk.cell x0
    replace x1 := hk.cell x1
    replace x2 := hk.cell x2
    replace x3 := hk.cell x3
    replace k0 := hk.cell k0
    replace k1 := hk.cell k1
    have lx0 := cell_lt x0
    have lk0 := cell_lt k0
    have hB2 : Bel w w2 := hB1.trans hk
    replace HV := Lib.hid (HV.out.bel hk)
    clear hb hk hB1
    go_wp2_with fail
    refine (HIO.out _ (HV.out.bel (by repeat (first | assumption | exact Bel.refl _ | refine Bel.drew ?_ | refine Bel.drewN ?_ _ | refine Bel.alloc ?_ _ | refine Bel.setCell ?_ (by simp <;> omega) _ | refine Bel.trans ?_ (by assumption))))).mono ?_
    rintro e w3 ⟨rfl, hb⟩
    have hk : Bel w2 w3 := Bel.trans (by repeat (first | assumption | exact Bel.refl _ | refine Bel.drew ?_ | refine Bel.drewN ?_ _ | refine Bel.alloc ?_ _ | refine Bel.setCell ?_ (by simp <;> omega) _ | refine Bel.trans ?_ (by assumption))) hb
    replace x0 := hk.cell x0
    replace x1 := hk.cell x1
    replace x2 := hk.cell x2
    replace x3 := hk.cell x3
    replace k0 := hk.cell k0
    replace k1 := hk.cell k1
    have lx0 := cell_lt x0
    have lk0 := cell_lt k0
    have hB3 : Bel w w3 := hB2.trans hk
    replace HV := Lib.hid (HV.out.bel hk)
    clear hb hk hB2
    go_wp2_with fail
    refine (works_any _).mono ?_
    rintro e wz ⟨rfl, hb⟩
    have HBZ := Lib.hid (hB3.trans (Bel.trans (by repeat (first | assumption | exact Bel.refl _ | refine Bel.drew ?_ | refine Bel.drewN ?_ _ | refine Bel.alloc ?_ _ | refine Bel.setCell ?_ (by simp <;> omega) _ | refine Bel.trans ?_ (by assumption))) hb))
    clear hb hB3
    go_wp2
    go_ret
    exact ⟨rfl, HBZ.out⟩
  rw [h1] at HIO
  have hone := oneB_iff.1 h1
  have HIP := Lib.hid (fun wx => IsPlace_any t.C t.T i k (.slice a t.op.length c) (.slice wa t.ws.length wc) wx)
  clear h1
  by_cases hp : isPlaceB t.C t.T i k = true
  rotate_left
  · have hp : isPlaceB t.C t.T i k = false := by simpa using hp
    rw [hp] at HIP
    clear hp hval hf hroom hone
    go_enter Try.func11, Try.ntmps11
    go_wp2_with fail
    refine (HFR.out _ (HV.out.bel (by repeat (first | assumption | exact Bel.refl _ | refine Bel.drew ?_ | refine Bel.drewN ?_ _ | refine Bel.alloc ?_ _ | refine Bel.setCell ?_ (by simp <;> omega) _ | refine Bel.trans ?_ (by assumption))))).mono ?_
    rintro e w1 ⟨rfl, hb⟩
    have x0 : w1.cell? ⟨w.heap.size, 0, none⟩ = some (.int .i64 t.C) := hb.cell ((row_facts ((heap_alloc_old _ _ (by simp <;> omega)).trans (new_row rfl))).1 0)
    have x1 : w1.cell? ⟨w.heap.size, 1, none⟩ = some (.int .i64 t.T) := hb.cell ((row_facts ((heap_alloc_old _ _ (by simp <;> omega)).trans (new_row rfl))).1 1)
    have x2 : w1.cell? ⟨w.heap.size, 2, none⟩ = some (.slice a t.op.length c) := hb.cell ((row_facts ((heap_alloc_old _ _ (by simp <;> omega)).trans (new_row rfl))).1 2)
    have x3 : w1.cell? ⟨w.heap.size, 3, none⟩ = some (.slice wa t.ws.length wc) := hb.cell ((row_facts ((heap_alloc_old _ _ (by simp <;> omega)).trans (new_row rfl))).1 3)
    have k0 : w1.cell? ⟨w.heap.size + 1, 0, none⟩ = some (.int .i64 i) := hb.cell ((row_facts (new_row (by first | rfl | (simp; done)))).1 0)
    have k1 : w1.cell? ⟨w.heap.size + 1, 1, none⟩ = some (.int .i64 k) := hb.cell ((row_facts (new_row (by first | rfl | (simp; done)))).1 1)
    have hB1 : Bel w w1 := Bel.trans (by repeat (first | assumption | exact Bel.refl _ | refine Bel.drew ?_ | refine Bel.drewN ?_ _ | refine Bel.alloc ?_ _ | refine Bel.setCell ?_ (by simp <;> omega) _ | refine Bel.trans ?_ (by assumption))) hb
    have lx0 := cell_lt x0
    have lk0 := cell_lt k0
    replace HV := Lib.hid (HV.out.bel hB1)
    clear hb
    go_wp2_with fail
    refine (HRT.out _ (HV.out.bel (by repeat (first | assumption | exact Bel.refl _ | refine Bel.drew ?_ | refine Bel.drewN ?_ _ | refine Bel.alloc ?_ _ | refine Bel.setCell ?_ (by simp <;> omega) _ | refine Bel.trans ?_ (by assumption))))).mono ?_
    rintro e w2 ⟨rfl, hb⟩
    have hk : Bel w1 w2 := Bel.trans (by repeat (first | assumption | exact Bel.refl _ | refine Bel.drew ?_ | refine Bel.drewN ?_ _ | refine Bel.alloc ?_ _ | refine Bel.setCell ?_ (by simp <;> omega) _ | refine Bel.trans ?_ (by assumption))) hb
    replace x0 := hk.cell x0
    replace x1 := hk.cell x1
    replace x2 := hk.cell x2
    replace x3 := hk.cell x3
    replace k0 := hk.cell k0
    replace k1 := hk.cell k1
    have lx0 := cell_lt x0
    have lk0 := cell_lt k0
    have hB2 : Bel w w2 := hB1.trans hk
    replace HV := Lib.hid (HV.out.bel hk)
    clear hb hk hB1
    go_wp2_with fail
    refine (HIO.out _ (HV.out.bel (by repeat (first | assumption | exact Bel.refl _ | refine Bel.drew ?_ | refine Bel.drewN ?_ _ | refine Bel.alloc ?_ _ | refine Bel.setCell ?_ (by simp <;> omega) _ | refine Bel.trans ?_ (by assumption))))).mono ?_
    rintro e w3 ⟨rfl, hb⟩
    have hk : Bel w2 w3 := Bel.trans (by repeat (first | assumption | exact Bel.refl _ | refine Bel.drew ?_ | refine Bel.drewN ?_ _ | refine Bel.alloc ?_ _ | refine Bel.setCell ?_ (by simp <;> omega) _ | refine Bel.trans ?_ (by assumption))) hb
    replace x0 := hk.cell x0
    replace x1 := hk.cell x1
    replace x2 := hk.cell x2
    replace x3 := hk.cell x3
    replace k0 := hk.cell k0
    replace k1 := hk.cell k1
    have lx0 := cell_lt x0
    have lk0 := cell_lt k0
    have hB3 : Bel w w3 := hB2.trans hk
    replace HV := Lib.hid (HV.out.bel hk)
    clear hb hk hB2
    go_wp2_with fail
    refine (HIP.out _).mono ?_
    rintro e w4 ⟨rfl, hb⟩
    have hk : Bel w3 w4 := Bel.trans (by repeat (first | assumption | exact Bel.refl _ | refine Bel.drew ?_ | refine Bel.drewN ?_ _ | refine Bel.alloc ?_ _ | refine Bel.setCell ?_ (by simp <;> omega) _ | refine Bel.trans ?_ (by assumption))) hb
    replace x0 := hk.cell x0
    replace x1 := hk.cell x1
    replace x2 := hk.cell x2
    replace x3 := hk.cell x3
    replace k0 := hk.cell k0
    replace k1 := hk.cell k1
    have lx0 := cell_lt x0
    have lk0 := cell_lt k0
    have hB4 : Bel w w4 := hB3.trans hk
    replace HV := Lib.hid (HV.out.bel hk)
    clear hb hk hB3
    go_wp2_with fail
    refine (works_any _).mono ?_
    rintro e wz ⟨rfl, hb⟩
    have HBZ := Lib.hid (hB4.trans (Bel.trans (by repeat (first | assumption | exact Bel.refl _ | refine Bel.drew ?_ | refine Bel.drewN ?_ _ | refine Bel.alloc ?_ _ | refine Bel.setCell ?_ (by simp <;> omega) _ | refine Bel.trans ?_ (by assumption))) hb))
    clear hb hB4
    go_wp2
    go_ret
    exact ⟨rfl, HBZ.out⟩
  rw [hp] at HIP
  obtain ⟨i', k', rfl, rfl, hi', hk'⟩ := isPlaceB_nat hf hp
  obtain ⟨f1, f2, f3, f4, _, _⟩ := id hf
  have hex := exact_of_one hf hone
  have hd0 := dbt_nonneg hf hex
  have het : errR t true = 0 := errR_ok (askR_zero.2 ⟨hval, rfl⟩) hone
  have hep : errR t (isPlaceB t.C t.T i' k') = 0 := errR_ok (askR_zero.2 ⟨hval, hp⟩) hone
  obtain ⟨m1, m2, _⟩ := tell_law hf hone hi' hk'
  have HDB := Lib.hid (fun wx hx => (lawDoubt_any t (.agg #[.int .i64 t.C, .int .i64 t.T, .slice a t.op.length c, .slice wa t.ws.length wc]) wx hx f1 f2 f3 f4).mono (R' := fun e w' => e = .returned (.int .i64 (dbtR t)) ∧ Bel wx w') fun e w' h => ⟨by rw [h.1, lawDoubt_eq hval hone], h.2⟩)
  have HTP := Lib.hid (fun wx hx => (Tell_any t (.agg #[.int .i64 t.C, .int .i64 t.T, .slice a t.op.length c, .slice wa t.ws.length wc]) i' k' wx hx).mono (R' := fun e w' => e = .returned (.tuple #[.int .i64 (tellR t i' k'), .int .i64 0]) ∧ Bel wx w') fun e w' h => int_ok hep rfl h)
  have HAK := Lib.hid (fun wx hx => Ask_any t (.agg #[.int .i64 t.C, .int .i64 t.T, .slice a t.op.length c, .slice wa t.ws.length wc]) wx hx)
  rcases ask_law hf hone het with ⟨q1, q2⟩ | ⟨q1, ⟨q2, q2b⟩, qi, qc, q3, q4, q5, q6, q7⟩
  · rw [q1] at HAK
    have hbn : (decide (0 < dbtR t) = false) ∨ (decide (0 < dbtR t) = true ∧ decide (1 < t.T * t.C) = false) := by
      by_cases g : 0 < dbtR t
      · exact .inr ⟨decide_eq_true g, decide_eq_false (fun h => q2 ⟨g, h⟩)⟩
      · exact .inl (decide_eq_false g)
    have hmb : 0 ≤ t.T * t.C ∧ t.T * t.C ≤ 20 := ⟨Int.mul_nonneg (by omega) (by omega), by have := Int.mul_le_mul f4 f2 (by omega) (by omega); omega⟩
    obtain ⟨mb1, mb2⟩ := hmb
    generalize (askV t).1 = a1 at *
    generalize (askV t).2 = b1 at *
    have e1 : decide (dbtR t < 0) = false := decide_eq_false (by omega)
    have e2 : decide (tellR t i' k' < 0) = false := decide_eq_false (by omega)
    have e3 : decide (dbtR t < tellR t i' k') = false := decide_eq_false (by omega)
    clear q2 hval hf hroom hone hex het hep
    generalize dbtR t = d at *
    generalize tellR t (i' : Int) (k' : Int) = m at *
    rcases hbn with g1 | ⟨g1, g2⟩
    all_goals
      go_enter Try.func11, Try.ntmps11
      go_wp2_with fail
      refine (HFR.out _ (HV.out.bel (by repeat (first | assumption | exact Bel.refl _ | refine Bel.drew ?_ | refine Bel.drewN ?_ _ | refine Bel.alloc ?_ _ | refine Bel.setCell ?_ (by simp <;> omega) _ | refine Bel.trans ?_ (by assumption))))).mono ?_
      rintro e w1 ⟨rfl, hb⟩
      have x0 : w1.cell? ⟨w.heap.size, 0, none⟩ = some (.int .i64 t.C) := hb.cell ((row_facts ((heap_alloc_old _ _ (by simp <;> omega)).trans (new_row rfl))).1 0)
      have x1 : w1.cell? ⟨w.heap.size, 1, none⟩ = some (.int .i64 t.T) := hb.cell ((row_facts ((heap_alloc_old _ _ (by simp <;> omega)).trans (new_row rfl))).1 1)
      have x2 : w1.cell? ⟨w.heap.size, 2, none⟩ = some (.slice a t.op.length c) := hb.cell ((row_facts ((heap_alloc_old _ _ (by simp <;> omega)).trans (new_row rfl))).1 2)
      have x3 : w1.cell? ⟨w.heap.size, 3, none⟩ = some (.slice wa t.ws.length wc) := hb.cell ((row_facts ((heap_alloc_old _ _ (by simp <;> omega)).trans (new_row rfl))).1 3)
      have k0 : w1.cell? ⟨w.heap.size + 1, 0, none⟩ = some (.int .i64 (i' : Int)) := hb.cell ((row_facts (new_row (by first | rfl | (simp; done)))).1 0)
      have k1 : w1.cell? ⟨w.heap.size + 1, 1, none⟩ = some (.int .i64 (k' : Int)) := hb.cell ((row_facts (new_row (by first | rfl | (simp; done)))).1 1)
      have hB1 : Bel w w1 := Bel.trans (by repeat (first | assumption | exact Bel.refl _ | refine Bel.drew ?_ | refine Bel.drewN ?_ _ | refine Bel.alloc ?_ _ | refine Bel.setCell ?_ (by simp <;> omega) _ | refine Bel.trans ?_ (by assumption))) hb
      have lx0 := cell_lt x0
      have lk0 := cell_lt k0
      replace HV := Lib.hid (HV.out.bel hB1)
      clear hb
      go_wp2_with fail
      refine (HRT.out _ (HV.out.bel (by repeat (first | assumption | exact Bel.refl _ | refine Bel.drew ?_ | refine Bel.drewN ?_ _ | refine Bel.alloc ?_ _ | refine Bel.setCell ?_ (by simp <;> omega) _ | refine Bel.trans ?_ (by assumption))))).mono ?_
      rintro e w2 ⟨rfl, hb⟩
      have hk : Bel w1 w2 := Bel.trans (by repeat (first | assumption | exact Bel.refl _ | refine Bel.drew ?_ | refine Bel.drewN ?_ _ | refine Bel.alloc ?_ _ | refine Bel.setCell ?_ (by simp <;> omega) _ | refine Bel.trans ?_ (by assumption))) hb
      replace x0 := hk.cell x0
      replace x1 := hk.cell x1
      replace x2 := hk.cell x2
      replace x3 := hk.cell x3
      replace k0 := hk.cell k0
      replace k1 := hk.cell k1
      have lx0 := cell_lt x0
      have lk0 := cell_lt k0
      have hB2 : Bel w w2 := hB1.trans hk
      replace HV := Lib.hid (HV.out.bel hk)
      clear hb hk hB1
      go_wp2_with fail
      refine (HIO.out _ (HV.out.bel (by repeat (first | assumption | exact Bel.refl _ | refine Bel.drew ?_ | refine Bel.drewN ?_ _ | refine Bel.alloc ?_ _ | refine Bel.setCell ?_ (by simp <;> omega) _ | refine Bel.trans ?_ (by assumption))))).mono ?_
      rintro e w3 ⟨rfl, hb⟩
      have hk : Bel w2 w3 := Bel.trans (by repeat (first | assumption | exact Bel.refl _ | refine Bel.drew ?_ | refine Bel.drewN ?_ _ | refine Bel.alloc ?_ _ | refine Bel.setCell ?_ (by simp <;> omega) _ | refine Bel.trans ?_ (by assumption))) hb
      replace x0 := hk.cell x0
      replace x1 := hk.cell x1
      replace x2 := hk.cell x2
      replace x3 := hk.cell x3
      replace k0 := hk.cell k0
      replace k1 := hk.cell k1
      have lx0 := cell_lt x0
      have lk0 := cell_lt k0
      have hB3 : Bel w w3 := hB2.trans hk
      replace HV := Lib.hid (HV.out.bel hk)
      clear hb hk hB2
      go_wp2_with fail
      refine (HIP.out _).mono ?_
      rintro e w4 ⟨rfl, hb⟩
      have hk : Bel w3 w4 := Bel.trans (by repeat (first | assumption | exact Bel.refl _ | refine Bel.drew ?_ | refine Bel.drewN ?_ _ | refine Bel.alloc ?_ _ | refine Bel.setCell ?_ (by simp <;> omega) _ | refine Bel.trans ?_ (by assumption))) hb
      replace x0 := hk.cell x0
      replace x1 := hk.cell x1
      replace x2 := hk.cell x2
      replace x3 := hk.cell x3
      replace k0 := hk.cell k0
      replace k1 := hk.cell k1
      have lx0 := cell_lt x0
      have lk0 := cell_lt k0
      have hB4 : Bel w w4 := hB3.trans hk
      replace HV := Lib.hid (HV.out.bel hk)
      clear hb hk hB3
      go_wp2_with fail
      refine (HDB.out _ (HV.out.bel (by repeat (first | assumption | exact Bel.refl _ | refine Bel.drew ?_ | refine Bel.drewN ?_ _ | refine Bel.alloc ?_ _ | refine Bel.setCell ?_ (by simp <;> omega) _ | refine Bel.trans ?_ (by assumption))))).mono ?_
      rintro e w5 ⟨rfl, hb⟩
      have hk : Bel w4 w5 := Bel.trans (by repeat (first | assumption | exact Bel.refl _ | refine Bel.drew ?_ | refine Bel.drewN ?_ _ | refine Bel.alloc ?_ _ | refine Bel.setCell ?_ (by simp <;> omega) _ | refine Bel.trans ?_ (by assumption))) hb
      replace x0 := hk.cell x0
      replace x1 := hk.cell x1
      replace x2 := hk.cell x2
      replace x3 := hk.cell x3
      replace k0 := hk.cell k0
      replace k1 := hk.cell k1
      have lx0 := cell_lt x0
      have lk0 := cell_lt k0
      have hB5 : Bel w w5 := hB4.trans hk
      replace HV := Lib.hid (HV.out.bel hk)
      clear hb hk hB4
      go_wp2_with fail
      refine (HTP.out _ (HV.out.bel (by repeat (first | assumption | exact Bel.refl _ | refine Bel.drew ?_ | refine Bel.drewN ?_ _ | refine Bel.alloc ?_ _ | refine Bel.setCell ?_ (by simp <;> omega) _ | refine Bel.trans ?_ (by assumption))))).mono ?_
      rintro e w6 ⟨rfl, hb⟩
      have hk : Bel w5 w6 := Bel.trans (by repeat (first | assumption | exact Bel.refl _ | refine Bel.drew ?_ | refine Bel.drewN ?_ _ | refine Bel.alloc ?_ _ | refine Bel.setCell ?_ (by simp <;> omega) _ | refine Bel.trans ?_ (by assumption))) hb
      replace x0 := hk.cell x0
      replace x1 := hk.cell x1
      replace x2 := hk.cell x2
      replace x3 := hk.cell x3
      replace k0 := hk.cell k0
      replace k1 := hk.cell k1
      have lx0 := cell_lt x0
      have lk0 := cell_lt k0
      have hB6 : Bel w w6 := hB5.trans hk
      replace HV := Lib.hid (HV.out.bel hk)
      clear hb hk hB5
      go_wp2_with fail
      refine (HAK.out _ (HV.out.bel (by repeat (first | assumption | exact Bel.refl _ | refine Bel.drew ?_ | refine Bel.drewN ?_ _ | refine Bel.alloc ?_ _ | refine Bel.setCell ?_ (by simp <;> omega) _ | refine Bel.trans ?_ (by assumption))))).mono ?_
      rintro e w7 ⟨rfl, hb⟩
      have hk : Bel w6 w7 := Bel.trans (by repeat (first | assumption | exact Bel.refl _ | refine Bel.drew ?_ | refine Bel.drewN ?_ _ | refine Bel.alloc ?_ _ | refine Bel.setCell ?_ (by simp <;> omega) _ | refine Bel.trans ?_ (by assumption))) hb
      replace x0 := hk.cell x0
      replace x1 := hk.cell x1
      replace x2 := hk.cell x2
      replace x3 := hk.cell x3
      replace k0 := hk.cell k0
      replace k1 := hk.cell k1
      have lx0 := cell_lt x0
      have lk0 := cell_lt k0
      have hB7 : Bel w w7 := hB6.trans hk
      replace HV := Lib.hid (HV.out.bel hk)
      clear hb hk hB6
      go_wp2_with fail
      refine (works_any _).mono ?_
      rintro e wz ⟨rfl, hb⟩
      have HBZ := Lib.hid (hB7.trans (Bel.trans (by repeat (first | assumption | exact Bel.refl _ | refine Bel.drew ?_ | refine Bel.drewN ?_ _ | refine Bel.alloc ?_ _ | refine Bel.setCell ?_ (by simp <;> omega) _ | refine Bel.trans ?_ (by assumption))) hb))
      clear hb hB7
      go_wp2
      go_ret
      exact ⟨rfl, HBZ.out⟩
  · have HA1 := Lib.hid (show (askV t).1 = (qi : Int) by rw [q3])
    have HA2 := Lib.hid (show (askV t).2 = (qc : Int) by rw [q3])
    rw [q1, HA1.out, HA2.out] at HAK
    have hpq := place_of2 hf (i := (qi : Int)) (c := (qc : Int)) (by omega) (by omega) (by omega) (by omega)
    have heq : errR t (isPlaceB t.C t.T qi qc) = 0 := errR_ok (askR_zero.2 ⟨hval, hpq⟩) hone
    obtain ⟨l1, l2, l3⟩ := tell_law hf hone q4 q5
    have HTQ := Lib.hid (fun wx hx => (Tell_any t (.agg #[.int .i64 t.C, .int .i64 t.T, .slice a t.op.length c, .slice wa t.ws.length wc]) qi qc wx hx).mono (R' := fun e w' => e = .returned (.tuple #[.int .i64 (tellR t qi qc), .int .i64 0]) ∧ Bel wx w') fun e w' h => int_ok heq rfl h)
    have HIQ := Lib.hid (fun wx => (IsPlace_any t.C t.T qi qc (.slice a t.op.length c) (.slice wa t.ws.length wc) wx).mono (R' := fun e w' => e = .returned (.bool true) ∧ Bel wx w') fun e w' h => ⟨by rw [h.1, hpq], h.2⟩)
    have HFQ := Lib.hid (fun wx hx => (Fish_any t (.agg #[.int .i64 t.C, .int .i64 t.T, .slice a t.op.length c, .slice wa t.ws.length wc]) qi qc wx hx).mono (R' := fun e w' => e = .returned (.tuple #[.agg #[.int .i64 (fishLo t qi qc), .int .i64 (fishHi t qi qc)], .int .i64 0]) ∧ Bel wx w') fun e w' h => span_ok heq rfl rfl h)
    have HWI := Lib.hid (fun wx => (Within_any n 0 40 wx).mono (R' := fun e w' => e = .returned (.bool (withinB n 0 40)) ∧ Bel wx w') fun e w' h => ⟨h.1, h.2 ▸ Bel.refl _⟩)
    have HHS := Lib.hid (fun wx => has_any (fishLo t qi qc) (fishHi t qi qc) n wx)
    have HCO := Lib.hid (fun wx hx => Counted_any t qi qc n (.agg #[.int .i64 t.C, .int .i64 t.T, .slice a t.op.length c, .slice wa t.ws.length wc]) wx hx hroom)
    have HDT : Hid (fishLo t qi qc ≤ n → n ≤ fishHi t qi qc → 0 ≤ n → n ≤ 40 → ∃ dd : Int, 0 ≤ dd ∧ dd ≤ tellR t qi qc ∧ ∀ (vo : Value) (wx : World), TrapAt wx vo (told t ⟨qi, qc, n, n⟩) → Calls Try.prog 53 #[vo] wx fun e w' => e = .returned (.int .i64 dd) ∧ Bel wx w') := Lib.hid (fun h1 h2 h3 h4 => by
      obtain ⟨s1, s2, s3⟩ := l3 n h1 h2
      refine ⟨_, s2, s3, fun vo wx hx => (lawDoubt_any (told t ⟨qi, qc, n, n⟩) vo wx hx f1 f2 f3 f4).mono fun e w' h => ⟨?_, h.2⟩⟩
      rw [h.1, lawDoubt_eq (valid_told2 hval h7 (word_ii hf q4 q5 h3 h4)) s1])
    have e4 : decide (0 < dbtR t) = true := decide_eq_true q2
    have e5 : decide (1 < t.T * t.C) = true := decide_eq_true q2b
    have hmb : 0 ≤ t.T * t.C ∧ t.T * t.C ≤ 20 := ⟨Int.mul_nonneg (by omega) (by omega), by have := Int.mul_le_mul f4 f2 (by omega) (by omega); omega⟩
    obtain ⟨mb1, mb2⟩ := hmb
    have e1 : decide (dbtR t < 0) = false := decide_eq_false (by omega)
    have e2 : decide (tellR t i' k' < 0) = false := decide_eq_false (by omega)
    have e3 : decide (dbtR t < tellR t i' k') = false := decide_eq_false (by omega)
    have e6 : decide (tellR t qi qc < 0) = false := decide_eq_false (by omega)
    have e7 : ((i' : Int) = t.T - 1 ∧ (k' : Int) = t.C - 1) ∨ (¬ ((i' : Int) = t.T - 1 ∧ (k' : Int) = t.C - 1) ∧ decide (tellR t i' k' < tellR t qi qc) = false) := by
      by_cases g : (i' : Int) = t.T - 1 ∧ (k' : Int) = t.C - 1
      · exact .inl g
      · exact .inr ⟨g, decide_eq_false (by have := q7 i' k' hi' hk' g; omega)⟩
    have HLO := Lib.hid (show fishLo t qi qc = fishLo t qi qc from rfl)
    generalize fishLo t qi qc = lo at *
    generalize fishHi t qi qc = hi at *
    generalize dbtR t = d at *
    generalize tellR t (i' : Int) (k' : Int) = m at *
    generalize tellR t (qi : Int) (qc : Int) = kk at *
    have hl2 : 0 ≤ d - kk := by omega
    clear hval hf hroom hone hex het hep heq hpq l3 q7 q3 HLO
    have hqn : ¬ ((qi : Int) = t.T - 1 ∧ (qc : Int) = t.C - 1) := q6
    have e8 : ((qi : Int) == t.T - 1) = false ∨ (((qi : Int) == t.T - 1) = true ∧ ((qc : Int) == t.C - 1) = false) := by
      by_cases g : (qi : Int) = t.T - 1
      · exact .inr ⟨by simpa using g, by simpa using fun h => q6 ⟨g, h⟩⟩
      · exact .inl (by simpa using g)
    have e9 : (((i' : Int) == t.T - 1) = true ∧ ((k' : Int) == t.C - 1) = true) ∨ (decide (m < kk) = false ∧ (((i' : Int) == t.T - 1) = false ∨ (((i' : Int) == t.T - 1) = true ∧ ((k' : Int) == t.C - 1) = false))) := by
      rcases e7 with ⟨g1, g2⟩ | ⟨g1, g2⟩
      · exact .inl ⟨by simpa using g1, by simpa using g2⟩
      · refine .inr ⟨g2, ?_⟩
        by_cases g : (i' : Int) = t.T - 1
        · exact .inr ⟨by simpa using g, by simpa using fun h => g1 ⟨g, h⟩⟩
        · exact .inl (by simpa using g)
    have E8 := Lib.hid e8
    have E9 := Lib.hid e9
    clear e7 e8 e9 q6 hqn q2 q2b l2 m2
    cases hwi : withinB n 0 40
    · rw [hwi] at HWI
      clear hwi
      go_enter Try.func11, Try.ntmps11
      go_wp2_with fail
      refine (HFR.out _ (HV.out.bel (by repeat (first | assumption | exact Bel.refl _ | refine Bel.drew ?_ | refine Bel.drewN ?_ _ | refine Bel.alloc ?_ _ | refine Bel.setCell ?_ (by simp <;> omega) _ | refine Bel.trans ?_ (by assumption))))).mono ?_
      rintro e w1 ⟨rfl, hb⟩
      have x0 : w1.cell? ⟨w.heap.size, 0, none⟩ = some (.int .i64 t.C) := hb.cell ((row_facts ((heap_alloc_old _ _ (by simp <;> omega)).trans (new_row rfl))).1 0)
      have x1 : w1.cell? ⟨w.heap.size, 1, none⟩ = some (.int .i64 t.T) := hb.cell ((row_facts ((heap_alloc_old _ _ (by simp <;> omega)).trans (new_row rfl))).1 1)
      have x2 : w1.cell? ⟨w.heap.size, 2, none⟩ = some (.slice a t.op.length c) := hb.cell ((row_facts ((heap_alloc_old _ _ (by simp <;> omega)).trans (new_row rfl))).1 2)
      have x3 : w1.cell? ⟨w.heap.size, 3, none⟩ = some (.slice wa t.ws.length wc) := hb.cell ((row_facts ((heap_alloc_old _ _ (by simp <;> omega)).trans (new_row rfl))).1 3)
      have k0 : w1.cell? ⟨w.heap.size + 1, 0, none⟩ = some (.int .i64 (i' : Int)) := hb.cell ((row_facts (new_row (by first | rfl | (simp; done)))).1 0)
      have k1 : w1.cell? ⟨w.heap.size + 1, 1, none⟩ = some (.int .i64 (k' : Int)) := hb.cell ((row_facts (new_row (by first | rfl | (simp; done)))).1 1)
      have hB1 : Bel w w1 := Bel.trans (by repeat (first | assumption | exact Bel.refl _ | refine Bel.drew ?_ | refine Bel.drewN ?_ _ | refine Bel.alloc ?_ _ | refine Bel.setCell ?_ (by simp <;> omega) _ | refine Bel.trans ?_ (by assumption))) hb
      have lx0 := cell_lt x0
      have lk0 := cell_lt k0
      replace HV := Lib.hid (HV.out.bel hB1)
      clear hb
      go_wp2_with fail
      refine (HRT.out _ (HV.out.bel (by repeat (first | assumption | exact Bel.refl _ | refine Bel.drew ?_ | refine Bel.drewN ?_ _ | refine Bel.alloc ?_ _ | refine Bel.setCell ?_ (by simp <;> omega) _ | refine Bel.trans ?_ (by assumption))))).mono ?_
      rintro e w2 ⟨rfl, hb⟩
      have hk : Bel w1 w2 := Bel.trans (by repeat (first | assumption | exact Bel.refl _ | refine Bel.drew ?_ | refine Bel.drewN ?_ _ | refine Bel.alloc ?_ _ | refine Bel.setCell ?_ (by simp <;> omega) _ | refine Bel.trans ?_ (by assumption))) hb
      replace x0 := hk.cell x0
      replace x1 := hk.cell x1
      replace x2 := hk.cell x2
      replace x3 := hk.cell x3
      replace k0 := hk.cell k0
      replace k1 := hk.cell k1
      have lx0 := cell_lt x0
      have lk0 := cell_lt k0
      have hB2 : Bel w w2 := hB1.trans hk
      replace HV := Lib.hid (HV.out.bel hk)
      clear hb hk hB1
      go_wp2_with fail
      refine (HIO.out _ (HV.out.bel (by repeat (first | assumption | exact Bel.refl _ | refine Bel.drew ?_ | refine Bel.drewN ?_ _ | refine Bel.alloc ?_ _ | refine Bel.setCell ?_ (by simp <;> omega) _ | refine Bel.trans ?_ (by assumption))))).mono ?_
      rintro e w3 ⟨rfl, hb⟩
      have hk : Bel w2 w3 := Bel.trans (by repeat (first | assumption | exact Bel.refl _ | refine Bel.drew ?_ | refine Bel.drewN ?_ _ | refine Bel.alloc ?_ _ | refine Bel.setCell ?_ (by simp <;> omega) _ | refine Bel.trans ?_ (by assumption))) hb
      replace x0 := hk.cell x0
      replace x1 := hk.cell x1
      replace x2 := hk.cell x2
      replace x3 := hk.cell x3
      replace k0 := hk.cell k0
      replace k1 := hk.cell k1
      have lx0 := cell_lt x0
      have lk0 := cell_lt k0
      have hB3 : Bel w w3 := hB2.trans hk
      replace HV := Lib.hid (HV.out.bel hk)
      clear hb hk hB2
      go_wp2_with fail
      refine (HIP.out _).mono ?_
      rintro e w4 ⟨rfl, hb⟩
      have hk : Bel w3 w4 := Bel.trans (by repeat (first | assumption | exact Bel.refl _ | refine Bel.drew ?_ | refine Bel.drewN ?_ _ | refine Bel.alloc ?_ _ | refine Bel.setCell ?_ (by simp <;> omega) _ | refine Bel.trans ?_ (by assumption))) hb
      replace x0 := hk.cell x0
      replace x1 := hk.cell x1
      replace x2 := hk.cell x2
      replace x3 := hk.cell x3
      replace k0 := hk.cell k0
      replace k1 := hk.cell k1
      have lx0 := cell_lt x0
      have lk0 := cell_lt k0
      have hB4 : Bel w w4 := hB3.trans hk
      replace HV := Lib.hid (HV.out.bel hk)
      clear hb hk hB3
      go_wp2_with fail
      refine (HDB.out _ (HV.out.bel (by repeat (first | assumption | exact Bel.refl _ | refine Bel.drew ?_ | refine Bel.drewN ?_ _ | refine Bel.alloc ?_ _ | refine Bel.setCell ?_ (by simp <;> omega) _ | refine Bel.trans ?_ (by assumption))))).mono ?_
      rintro e w5 ⟨rfl, hb⟩
      have hk : Bel w4 w5 := Bel.trans (by repeat (first | assumption | exact Bel.refl _ | refine Bel.drew ?_ | refine Bel.drewN ?_ _ | refine Bel.alloc ?_ _ | refine Bel.setCell ?_ (by simp <;> omega) _ | refine Bel.trans ?_ (by assumption))) hb
      replace x0 := hk.cell x0
      replace x1 := hk.cell x1
      replace x2 := hk.cell x2
      replace x3 := hk.cell x3
      replace k0 := hk.cell k0
      replace k1 := hk.cell k1
      have lx0 := cell_lt x0
      have lk0 := cell_lt k0
      have hB5 : Bel w w5 := hB4.trans hk
      replace HV := Lib.hid (HV.out.bel hk)
      clear hb hk hB4
      go_wp2_with fail
      refine (HTP.out _ (HV.out.bel (by repeat (first | assumption | exact Bel.refl _ | refine Bel.drew ?_ | refine Bel.drewN ?_ _ | refine Bel.alloc ?_ _ | refine Bel.setCell ?_ (by simp <;> omega) _ | refine Bel.trans ?_ (by assumption))))).mono ?_
      rintro e w6 ⟨rfl, hb⟩
      have hk : Bel w5 w6 := Bel.trans (by repeat (first | assumption | exact Bel.refl _ | refine Bel.drew ?_ | refine Bel.drewN ?_ _ | refine Bel.alloc ?_ _ | refine Bel.setCell ?_ (by simp <;> omega) _ | refine Bel.trans ?_ (by assumption))) hb
      replace x0 := hk.cell x0
      replace x1 := hk.cell x1
      replace x2 := hk.cell x2
      replace x3 := hk.cell x3
      replace k0 := hk.cell k0
      replace k1 := hk.cell k1
      have lx0 := cell_lt x0
      have lk0 := cell_lt k0
      have hB6 : Bel w w6 := hB5.trans hk
      replace HV := Lib.hid (HV.out.bel hk)
      clear hb hk hB5
      go_wp2_with fail
      refine (HAK.out _ (HV.out.bel (by repeat (first | assumption | exact Bel.refl _ | refine Bel.drew ?_ | refine Bel.drewN ?_ _ | refine Bel.alloc ?_ _ | refine Bel.setCell ?_ (by simp <;> omega) _ | refine Bel.trans ?_ (by assumption))))).mono ?_
      rintro e w7 ⟨rfl, hb⟩
      have hk : Bel w6 w7 := Bel.trans (by repeat (first | assumption | exact Bel.refl _ | refine Bel.drew ?_ | refine Bel.drewN ?_ _ | refine Bel.alloc ?_ _ | refine Bel.setCell ?_ (by simp <;> omega) _ | refine Bel.trans ?_ (by assumption))) hb
      replace x0 := hk.cell x0
      replace x1 := hk.cell x1
      replace x2 := hk.cell x2
      replace x3 := hk.cell x3
      replace k0 := hk.cell k0
      replace k1 := hk.cell k1
      have lx0 := cell_lt x0
      have lk0 := cell_lt k0
      have hB7 : Bel w w7 := hB6.trans hk
      replace HV := Lib.hid (HV.out.bel hk)
      clear hb hk hB6
      go_wp2_with fail
      refine (HTQ.out _ (HV.out.bel (by repeat (first | assumption | exact Bel.refl _ | refine Bel.drew ?_ | refine Bel.drewN ?_ _ | refine Bel.alloc ?_ _ | refine Bel.setCell ?_ (by simp <;> omega) _ | refine Bel.trans ?_ (by assumption))))).mono ?_
      rintro e w8 ⟨rfl, hb⟩
      have q0 : w8.cell? ⟨w7.heap.size, 0, none⟩ = some (.int .i64 (qi : Int)) := hb.cell ((row_facts ((heap_alloc_old _ _ (by simp <;> omega)).trans (new_row rfl))).1 0)
      have q1' : w8.cell? ⟨w7.heap.size, 1, none⟩ = some (.int .i64 (qc : Int)) := hb.cell ((row_facts ((heap_alloc_old _ _ (by simp <;> omega)).trans (new_row rfl))).1 1)
      have l0 : w8.cell? ⟨w7.heap.size + 1, 0, none⟩ = some (.int .i64 (t.T - 1)) := hb.cell ((row_facts (new_row (by first | rfl | (simp; done)))).1 0)
      have l1' : w8.cell? ⟨w7.heap.size + 1, 1, none⟩ = some (.int .i64 (t.C - 1)) := hb.cell ((row_facts (new_row (by first | rfl | (simp; done)))).1 1)
      have hk : Bel w7 w8 := Bel.trans (by repeat (first | assumption | exact Bel.refl _ | refine Bel.drew ?_ | refine Bel.drewN ?_ _ | refine Bel.alloc ?_ _ | refine Bel.setCell ?_ (by simp <;> omega) _ | refine Bel.trans ?_ (by assumption))) hb
      replace x0 := hk.cell x0
      replace x1 := hk.cell x1
      replace x2 := hk.cell x2
      replace x3 := hk.cell x3
      replace k0 := hk.cell k0
      replace k1 := hk.cell k1
      have lx0 := cell_lt x0
      have lk0 := cell_lt k0
      have lq0 := cell_lt q0
      have ll0 := cell_lt l0
      have hB8 : Bel w w8 := hB7.trans hk
      replace HV := Lib.hid (HV.out.bel hk)
      clear hb hk hB7
      go_wp2_with fail
      refine (HIQ.out _).mono ?_
      rintro e w9 ⟨rfl, hb⟩
      have hk : Bel w8 w9 := Bel.trans (by repeat (first | assumption | exact Bel.refl _ | refine Bel.drew ?_ | refine Bel.drewN ?_ _ | refine Bel.alloc ?_ _ | refine Bel.setCell ?_ (by simp <;> omega) _ | refine Bel.trans ?_ (by assumption))) hb
      replace x0 := hk.cell x0
      replace x1 := hk.cell x1
      replace x2 := hk.cell x2
      replace x3 := hk.cell x3
      replace k0 := hk.cell k0
      replace k1 := hk.cell k1
      replace q0 := hk.cell q0
      replace q1' := hk.cell q1'
      replace l0 := hk.cell l0
      replace l1' := hk.cell l1'
      have lx0 := cell_lt x0
      have lk0 := cell_lt k0
      have lq0 := cell_lt q0
      have ll0 := cell_lt l0
      have hB9 : Bel w w9 := hB8.trans hk
      replace HV := Lib.hid (HV.out.bel hk)
      clear hb hk hB8
      rcases E8.out with e8 | ⟨e8, e8b⟩ <;> rcases E9.out with ⟨e9, e9b⟩ | ⟨e9, e9b | ⟨e9b, e9c⟩⟩
      all_goals
        go_wp2_with fail
        refine (HFQ.out _ (HV.out.bel (by repeat (first | assumption | exact Bel.refl _ | refine Bel.drew ?_ | refine Bel.drewN ?_ _ | refine Bel.alloc ?_ _ | refine Bel.setCell ?_ (by simp <;> omega) _ | refine Bel.trans ?_ (by assumption))))).mono ?_
        rintro e w10 ⟨rfl, hb⟩
        have hk : Bel w9 w10 := Bel.trans (by repeat (first | assumption | exact Bel.refl _ | refine Bel.drew ?_ | refine Bel.drewN ?_ _ | refine Bel.alloc ?_ _ | refine Bel.setCell ?_ (by simp <;> omega) _ | refine Bel.trans ?_ (by assumption))) hb
        replace x0 := hk.cell x0
        replace x1 := hk.cell x1
        replace x2 := hk.cell x2
        replace x3 := hk.cell x3
        replace k0 := hk.cell k0
        replace k1 := hk.cell k1
        replace q0 := hk.cell q0
        replace q1' := hk.cell q1'
        replace l0 := hk.cell l0
        replace l1' := hk.cell l1'
        have lx0 := cell_lt x0
        have lk0 := cell_lt k0
        have lq0 := cell_lt q0
        have ll0 := cell_lt l0
        have hB10 : Bel w w10 := hB9.trans hk
        replace HV := Lib.hid (HV.out.bel hk)
        clear hb hk hB9
        go_wp2_with fail
        refine (HWI.out _).mono ?_
        rintro e w11 ⟨rfl, hb⟩
        have s0 : w11.cell? ⟨w10.heap.size, 0, none⟩ = some (.int .i64 lo) := hb.cell ((row_facts (new_row (by first | rfl | (simp; done)))).1 0)
        have s1 : w11.cell? ⟨w10.heap.size, 1, none⟩ = some (.int .i64 hi) := hb.cell ((row_facts (new_row (by first | rfl | (simp; done)))).1 1)
        have hk : Bel w10 w11 := Bel.trans (by repeat (first | assumption | exact Bel.refl _ | refine Bel.drew ?_ | refine Bel.drewN ?_ _ | refine Bel.alloc ?_ _ | refine Bel.setCell ?_ (by simp <;> omega) _ | refine Bel.trans ?_ (by assumption))) hb
        replace x0 := hk.cell x0
        replace x1 := hk.cell x1
        replace x2 := hk.cell x2
        replace x3 := hk.cell x3
        replace k0 := hk.cell k0
        replace k1 := hk.cell k1
        replace q0 := hk.cell q0
        replace q1' := hk.cell q1'
        replace l0 := hk.cell l0
        replace l1' := hk.cell l1'
        have lx0 := cell_lt x0
        have lk0 := cell_lt k0
        have lq0 := cell_lt q0
        have ll0 := cell_lt l0
        have ls0 := cell_lt s0
        have hB11 : Bel w w11 := hB10.trans hk
        replace HV := Lib.hid (HV.out.bel hk)
        clear hb hk hB10
        go_wp2_with fail
        refine (works_any _).mono ?_
        rintro e wz ⟨rfl, hb⟩
        have HBZ := Lib.hid (hB11.trans (Bel.trans (by repeat (first | assumption | exact Bel.refl _ | refine Bel.drew ?_ | refine Bel.drewN ?_ _ | refine Bel.alloc ?_ _ | refine Bel.setCell ?_ (by simp <;> omega) _ | refine Bel.trans ?_ (by assumption))) hb))
        clear hb hB11
        go_wp2
        go_ret
        exact ⟨rfl, HBZ.out⟩
    · rw [hwi] at HWI
      obtain ⟨w1', w2'⟩ := withinB_true.1 hwi
      clear hwi
      by_cases hlo : lo ≤ n ∧ n ≤ hi
      · obtain ⟨r1, r2⟩ := hlo
        obtain ⟨dd, d1, d2, HDQ'⟩ := HDT.out r1 r2 w1' w2'
        have HDQ := Lib.hid HDQ'
        have p1 : decide (0 ≤ dd) = true := decide_eq_true d1
        have p2 : decide (dd ≤ kk) = true := decide_eq_true d2
        rw [decide_eq_true r1, decide_eq_true r2] at HHS
        simp only [Bool.and_true] at HHS
        clear r1 r2 w1' w2' HDQ'
        go_enter Try.func11, Try.ntmps11
        go_wp2_with fail
        refine (HFR.out _ (HV.out.bel (by repeat (first | assumption | exact Bel.refl _ | refine Bel.drew ?_ | refine Bel.drewN ?_ _ | refine Bel.alloc ?_ _ | refine Bel.setCell ?_ (by simp <;> omega) _ | refine Bel.trans ?_ (by assumption))))).mono ?_
        rintro e w1 ⟨rfl, hb⟩
        have x0 : w1.cell? ⟨w.heap.size, 0, none⟩ = some (.int .i64 t.C) := hb.cell ((row_facts ((heap_alloc_old _ _ (by simp <;> omega)).trans (new_row rfl))).1 0)
        have x1 : w1.cell? ⟨w.heap.size, 1, none⟩ = some (.int .i64 t.T) := hb.cell ((row_facts ((heap_alloc_old _ _ (by simp <;> omega)).trans (new_row rfl))).1 1)
        have x2 : w1.cell? ⟨w.heap.size, 2, none⟩ = some (.slice a t.op.length c) := hb.cell ((row_facts ((heap_alloc_old _ _ (by simp <;> omega)).trans (new_row rfl))).1 2)
        have x3 : w1.cell? ⟨w.heap.size, 3, none⟩ = some (.slice wa t.ws.length wc) := hb.cell ((row_facts ((heap_alloc_old _ _ (by simp <;> omega)).trans (new_row rfl))).1 3)
        have k0 : w1.cell? ⟨w.heap.size + 1, 0, none⟩ = some (.int .i64 (i' : Int)) := hb.cell ((row_facts (new_row (by first | rfl | (simp; done)))).1 0)
        have k1 : w1.cell? ⟨w.heap.size + 1, 1, none⟩ = some (.int .i64 (k' : Int)) := hb.cell ((row_facts (new_row (by first | rfl | (simp; done)))).1 1)
        have hB1 : Bel w w1 := Bel.trans (by repeat (first | assumption | exact Bel.refl _ | refine Bel.drew ?_ | refine Bel.drewN ?_ _ | refine Bel.alloc ?_ _ | refine Bel.setCell ?_ (by simp <;> omega) _ | refine Bel.trans ?_ (by assumption))) hb
        have lx0 := cell_lt x0
        have lk0 := cell_lt k0
        replace HV := Lib.hid (HV.out.bel hB1)
        clear hb
        go_wp2_with fail
        refine (HRT.out _ (HV.out.bel (by repeat (first | assumption | exact Bel.refl _ | refine Bel.drew ?_ | refine Bel.drewN ?_ _ | refine Bel.alloc ?_ _ | refine Bel.setCell ?_ (by simp <;> omega) _ | refine Bel.trans ?_ (by assumption))))).mono ?_
        rintro e w2 ⟨rfl, hb⟩
        have hk : Bel w1 w2 := Bel.trans (by repeat (first | assumption | exact Bel.refl _ | refine Bel.drew ?_ | refine Bel.drewN ?_ _ | refine Bel.alloc ?_ _ | refine Bel.setCell ?_ (by simp <;> omega) _ | refine Bel.trans ?_ (by assumption))) hb
        replace x0 := hk.cell x0
        replace x1 := hk.cell x1
        replace x2 := hk.cell x2
        replace x3 := hk.cell x3
        replace k0 := hk.cell k0
        replace k1 := hk.cell k1
        have lx0 := cell_lt x0
        have lk0 := cell_lt k0
        have hB2 : Bel w w2 := hB1.trans hk
        replace HV := Lib.hid (HV.out.bel hk)
        clear hb hk hB1
        go_wp2_with fail
        refine (HIO.out _ (HV.out.bel (by repeat (first | assumption | exact Bel.refl _ | refine Bel.drew ?_ | refine Bel.drewN ?_ _ | refine Bel.alloc ?_ _ | refine Bel.setCell ?_ (by simp <;> omega) _ | refine Bel.trans ?_ (by assumption))))).mono ?_
        rintro e w3 ⟨rfl, hb⟩
        have hk : Bel w2 w3 := Bel.trans (by repeat (first | assumption | exact Bel.refl _ | refine Bel.drew ?_ | refine Bel.drewN ?_ _ | refine Bel.alloc ?_ _ | refine Bel.setCell ?_ (by simp <;> omega) _ | refine Bel.trans ?_ (by assumption))) hb
        replace x0 := hk.cell x0
        replace x1 := hk.cell x1
        replace x2 := hk.cell x2
        replace x3 := hk.cell x3
        replace k0 := hk.cell k0
        replace k1 := hk.cell k1
        have lx0 := cell_lt x0
        have lk0 := cell_lt k0
        have hB3 : Bel w w3 := hB2.trans hk
        replace HV := Lib.hid (HV.out.bel hk)
        clear hb hk hB2
        go_wp2_with fail
        refine (HIP.out _).mono ?_
        rintro e w4 ⟨rfl, hb⟩
        have hk : Bel w3 w4 := Bel.trans (by repeat (first | assumption | exact Bel.refl _ | refine Bel.drew ?_ | refine Bel.drewN ?_ _ | refine Bel.alloc ?_ _ | refine Bel.setCell ?_ (by simp <;> omega) _ | refine Bel.trans ?_ (by assumption))) hb
        replace x0 := hk.cell x0
        replace x1 := hk.cell x1
        replace x2 := hk.cell x2
        replace x3 := hk.cell x3
        replace k0 := hk.cell k0
        replace k1 := hk.cell k1
        have lx0 := cell_lt x0
        have lk0 := cell_lt k0
        have hB4 : Bel w w4 := hB3.trans hk
        replace HV := Lib.hid (HV.out.bel hk)
        clear hb hk hB3
        go_wp2_with fail
        refine (HDB.out _ (HV.out.bel (by repeat (first | assumption | exact Bel.refl _ | refine Bel.drew ?_ | refine Bel.drewN ?_ _ | refine Bel.alloc ?_ _ | refine Bel.setCell ?_ (by simp <;> omega) _ | refine Bel.trans ?_ (by assumption))))).mono ?_
        rintro e w5 ⟨rfl, hb⟩
        have hk : Bel w4 w5 := Bel.trans (by repeat (first | assumption | exact Bel.refl _ | refine Bel.drew ?_ | refine Bel.drewN ?_ _ | refine Bel.alloc ?_ _ | refine Bel.setCell ?_ (by simp <;> omega) _ | refine Bel.trans ?_ (by assumption))) hb
        replace x0 := hk.cell x0
        replace x1 := hk.cell x1
        replace x2 := hk.cell x2
        replace x3 := hk.cell x3
        replace k0 := hk.cell k0
        replace k1 := hk.cell k1
        have lx0 := cell_lt x0
        have lk0 := cell_lt k0
        have hB5 : Bel w w5 := hB4.trans hk
        replace HV := Lib.hid (HV.out.bel hk)
        clear hb hk hB4
        go_wp2_with fail
        refine (HTP.out _ (HV.out.bel (by repeat (first | assumption | exact Bel.refl _ | refine Bel.drew ?_ | refine Bel.drewN ?_ _ | refine Bel.alloc ?_ _ | refine Bel.setCell ?_ (by simp <;> omega) _ | refine Bel.trans ?_ (by assumption))))).mono ?_
        rintro e w6 ⟨rfl, hb⟩
        have hk : Bel w5 w6 := Bel.trans (by repeat (first | assumption | exact Bel.refl _ | refine Bel.drew ?_ | refine Bel.drewN ?_ _ | refine Bel.alloc ?_ _ | refine Bel.setCell ?_ (by simp <;> omega) _ | refine Bel.trans ?_ (by assumption))) hb
        replace x0 := hk.cell x0
        replace x1 := hk.cell x1
        replace x2 := hk.cell x2
        replace x3 := hk.cell x3
        replace k0 := hk.cell k0
        replace k1 := hk.cell k1
        have lx0 := cell_lt x0
        have lk0 := cell_lt k0
        have hB6 : Bel w w6 := hB5.trans hk
        replace HV := Lib.hid (HV.out.bel hk)
        clear hb hk hB5
        go_wp2_with fail
        refine (HAK.out _ (HV.out.bel (by repeat (first | assumption | exact Bel.refl _ | refine Bel.drew ?_ | refine Bel.drewN ?_ _ | refine Bel.alloc ?_ _ | refine Bel.setCell ?_ (by simp <;> omega) _ | refine Bel.trans ?_ (by assumption))))).mono ?_
        rintro e w7 ⟨rfl, hb⟩
        have hk : Bel w6 w7 := Bel.trans (by repeat (first | assumption | exact Bel.refl _ | refine Bel.drew ?_ | refine Bel.drewN ?_ _ | refine Bel.alloc ?_ _ | refine Bel.setCell ?_ (by simp <;> omega) _ | refine Bel.trans ?_ (by assumption))) hb
        replace x0 := hk.cell x0
        replace x1 := hk.cell x1
        replace x2 := hk.cell x2
        replace x3 := hk.cell x3
        replace k0 := hk.cell k0
        replace k1 := hk.cell k1
        have lx0 := cell_lt x0
        have lk0 := cell_lt k0
        have hB7 : Bel w w7 := hB6.trans hk
        replace HV := Lib.hid (HV.out.bel hk)
        clear hb hk hB6
        go_wp2_with fail
        refine (HTQ.out _ (HV.out.bel (by repeat (first | assumption | exact Bel.refl _ | refine Bel.drew ?_ | refine Bel.drewN ?_ _ | refine Bel.alloc ?_ _ | refine Bel.setCell ?_ (by simp <;> omega) _ | refine Bel.trans ?_ (by assumption))))).mono ?_
        rintro e w8 ⟨rfl, hb⟩
        have q0 : w8.cell? ⟨w7.heap.size, 0, none⟩ = some (.int .i64 (qi : Int)) := hb.cell ((row_facts ((heap_alloc_old _ _ (by simp <;> omega)).trans (new_row rfl))).1 0)
        have q1' : w8.cell? ⟨w7.heap.size, 1, none⟩ = some (.int .i64 (qc : Int)) := hb.cell ((row_facts ((heap_alloc_old _ _ (by simp <;> omega)).trans (new_row rfl))).1 1)
        have l0 : w8.cell? ⟨w7.heap.size + 1, 0, none⟩ = some (.int .i64 (t.T - 1)) := hb.cell ((row_facts (new_row (by first | rfl | (simp; done)))).1 0)
        have l1' : w8.cell? ⟨w7.heap.size + 1, 1, none⟩ = some (.int .i64 (t.C - 1)) := hb.cell ((row_facts (new_row (by first | rfl | (simp; done)))).1 1)
        have hk : Bel w7 w8 := Bel.trans (by repeat (first | assumption | exact Bel.refl _ | refine Bel.drew ?_ | refine Bel.drewN ?_ _ | refine Bel.alloc ?_ _ | refine Bel.setCell ?_ (by simp <;> omega) _ | refine Bel.trans ?_ (by assumption))) hb
        replace x0 := hk.cell x0
        replace x1 := hk.cell x1
        replace x2 := hk.cell x2
        replace x3 := hk.cell x3
        replace k0 := hk.cell k0
        replace k1 := hk.cell k1
        have lx0 := cell_lt x0
        have lk0 := cell_lt k0
        have lq0 := cell_lt q0
        have ll0 := cell_lt l0
        have hB8 : Bel w w8 := hB7.trans hk
        replace HV := Lib.hid (HV.out.bel hk)
        clear hb hk hB7
        go_wp2_with fail
        refine (HIQ.out _).mono ?_
        rintro e w9 ⟨rfl, hb⟩
        have hk : Bel w8 w9 := Bel.trans (by repeat (first | assumption | exact Bel.refl _ | refine Bel.drew ?_ | refine Bel.drewN ?_ _ | refine Bel.alloc ?_ _ | refine Bel.setCell ?_ (by simp <;> omega) _ | refine Bel.trans ?_ (by assumption))) hb
        replace x0 := hk.cell x0
        replace x1 := hk.cell x1
        replace x2 := hk.cell x2
        replace x3 := hk.cell x3
        replace k0 := hk.cell k0
        replace k1 := hk.cell k1
        replace q0 := hk.cell q0
        replace q1' := hk.cell q1'
        replace l0 := hk.cell l0
        replace l1' := hk.cell l1'
        have lx0 := cell_lt x0
        have lk0 := cell_lt k0
        have lq0 := cell_lt q0
        have ll0 := cell_lt l0
        have hB9 : Bel w w9 := hB8.trans hk
        replace HV := Lib.hid (HV.out.bel hk)
        clear hb hk hB8
        rcases E8.out with e8 | ⟨e8, e8b⟩ <;> rcases E9.out with ⟨e9, e9b⟩ | ⟨e9, e9b | ⟨e9b, e9c⟩⟩
        all_goals
          go_wp2_with fail
          refine (HFQ.out _ (HV.out.bel (by repeat (first | assumption | exact Bel.refl _ | refine Bel.drew ?_ | refine Bel.drewN ?_ _ | refine Bel.alloc ?_ _ | refine Bel.setCell ?_ (by simp <;> omega) _ | refine Bel.trans ?_ (by assumption))))).mono ?_
          rintro e w10 ⟨rfl, hb⟩
          have hk : Bel w9 w10 := Bel.trans (by repeat (first | assumption | exact Bel.refl _ | refine Bel.drew ?_ | refine Bel.drewN ?_ _ | refine Bel.alloc ?_ _ | refine Bel.setCell ?_ (by simp <;> omega) _ | refine Bel.trans ?_ (by assumption))) hb
          replace x0 := hk.cell x0
          replace x1 := hk.cell x1
          replace x2 := hk.cell x2
          replace x3 := hk.cell x3
          replace k0 := hk.cell k0
          replace k1 := hk.cell k1
          replace q0 := hk.cell q0
          replace q1' := hk.cell q1'
          replace l0 := hk.cell l0
          replace l1' := hk.cell l1'
          have lx0 := cell_lt x0
          have lk0 := cell_lt k0
          have lq0 := cell_lt q0
          have ll0 := cell_lt l0
          have hB10 : Bel w w10 := hB9.trans hk
          replace HV := Lib.hid (HV.out.bel hk)
          clear hb hk hB9
          go_wp2_with fail
          refine (HWI.out _).mono ?_
          rintro e w11 ⟨rfl, hb⟩
          have s0 : w11.cell? ⟨w10.heap.size, 0, none⟩ = some (.int .i64 lo) := hb.cell ((row_facts (new_row (by first | rfl | (simp; done)))).1 0)
          have s1 : w11.cell? ⟨w10.heap.size, 1, none⟩ = some (.int .i64 hi) := hb.cell ((row_facts (new_row (by first | rfl | (simp; done)))).1 1)
          have hk : Bel w10 w11 := Bel.trans (by repeat (first | assumption | exact Bel.refl _ | refine Bel.drew ?_ | refine Bel.drewN ?_ _ | refine Bel.alloc ?_ _ | refine Bel.setCell ?_ (by simp <;> omega) _ | refine Bel.trans ?_ (by assumption))) hb
          replace x0 := hk.cell x0
          replace x1 := hk.cell x1
          replace x2 := hk.cell x2
          replace x3 := hk.cell x3
          replace k0 := hk.cell k0
          replace k1 := hk.cell k1
          replace q0 := hk.cell q0
          replace q1' := hk.cell q1'
          replace l0 := hk.cell l0
          replace l1' := hk.cell l1'
          have lx0 := cell_lt x0
          have lk0 := cell_lt k0
          have lq0 := cell_lt q0
          have ll0 := cell_lt l0
          have ls0 := cell_lt s0
          have hB11 : Bel w w11 := hB10.trans hk
          replace HV := Lib.hid (HV.out.bel hk)
          clear hb hk hB10
          go_wp2_with fail
          refine (HHS.out _).mono ?_
          rintro e w12 ⟨rfl, hb⟩
          have hk : Bel w11 w12 := Bel.trans (by repeat (first | assumption | exact Bel.refl _ | refine Bel.drew ?_ | refine Bel.drewN ?_ _ | refine Bel.alloc ?_ _ | refine Bel.setCell ?_ (by simp <;> omega) _ | refine Bel.trans ?_ (by assumption))) hb
          replace x0 := hk.cell x0
          replace x1 := hk.cell x1
          replace x2 := hk.cell x2
          replace x3 := hk.cell x3
          replace k0 := hk.cell k0
          replace k1 := hk.cell k1
          replace q0 := hk.cell q0
          replace q1' := hk.cell q1'
          replace l0 := hk.cell l0
          replace l1' := hk.cell l1'
          replace s0 := hk.cell s0
          replace s1 := hk.cell s1
          have lx0 := cell_lt x0
          have lk0 := cell_lt k0
          have lq0 := cell_lt q0
          have ll0 := cell_lt l0
          have ls0 := cell_lt s0
          have hB12 : Bel w w12 := hB11.trans hk
          replace HV := Lib.hid (HV.out.bel hk)
          clear hb hk hB11
          go_wp2_with fail
          refine (HCO.out _ (HV.out.bel (by repeat (first | assumption | exact Bel.refl _ | refine Bel.drew ?_ | refine Bel.drewN ?_ _ | refine Bel.alloc ?_ _ | refine Bel.setCell ?_ (by simp <;> omega) _ | refine Bel.trans ?_ (by assumption))))).mono ?_
          rintro e w13 ⟨vo, rfl, hb, hN⟩
          have hk : Bel w12 w13 := Bel.trans (by repeat (first | assumption | exact Bel.refl _ | refine Bel.drew ?_ | refine Bel.drewN ?_ _ | refine Bel.alloc ?_ _ | refine Bel.setCell ?_ (by simp <;> omega) _ | refine Bel.trans ?_ (by assumption))) hb
          replace x0 := hk.cell x0
          replace x1 := hk.cell x1
          replace x2 := hk.cell x2
          replace x3 := hk.cell x3
          replace k0 := hk.cell k0
          replace k1 := hk.cell k1
          replace q0 := hk.cell q0
          replace q1' := hk.cell q1'
          replace l0 := hk.cell l0
          replace l1' := hk.cell l1'
          replace s0 := hk.cell s0
          replace s1 := hk.cell s1
          have lx0 := cell_lt x0
          have lk0 := cell_lt k0
          have lq0 := cell_lt q0
          have ll0 := cell_lt l0
          have ls0 := cell_lt s0
          have hB13 : Bel w w13 := hB12.trans hk
          replace HV := Lib.hid (HV.out.bel hk)
          clear hb hk hB12
          have HN := Lib.hid hN.now
          clear hN
          go_wp2_with fail
          refine (HDQ.out vo _ (HN.out.bel (by repeat (first | assumption | exact Bel.refl _ | refine Bel.drew ?_ | refine Bel.drewN ?_ _ | refine Bel.alloc ?_ _ | refine Bel.setCell ?_ (by simp <;> omega) _ | refine Bel.trans ?_ (by assumption))))).mono ?_
          rintro e w14 ⟨rfl, hb⟩
          have hk : Bel w13 w14 := Bel.trans (by repeat (first | assumption | exact Bel.refl _ | refine Bel.drew ?_ | refine Bel.drewN ?_ _ | refine Bel.alloc ?_ _ | refine Bel.setCell ?_ (by simp <;> omega) _ | refine Bel.trans ?_ (by assumption))) hb
          replace x0 := hk.cell x0
          replace x1 := hk.cell x1
          replace x2 := hk.cell x2
          replace x3 := hk.cell x3
          replace k0 := hk.cell k0
          replace k1 := hk.cell k1
          replace q0 := hk.cell q0
          replace q1' := hk.cell q1'
          replace l0 := hk.cell l0
          replace l1' := hk.cell l1'
          replace s0 := hk.cell s0
          replace s1 := hk.cell s1
          have lx0 := cell_lt x0
          have lk0 := cell_lt k0
          have lq0 := cell_lt q0
          have ll0 := cell_lt l0
          have ls0 := cell_lt s0
          have hB14 : Bel w w14 := hB13.trans hk
          replace HV := Lib.hid (HV.out.bel hk)
          replace HN := Lib.hid (HN.out.bel hk)
          clear hb hk hB13
          go_wp2_with fail
          refine (works_any _).mono ?_
          rintro e wz ⟨rfl, hb⟩
          have HBZ := Lib.hid (hB14.trans (Bel.trans (by repeat (first | assumption | exact Bel.refl _ | refine Bel.drew ?_ | refine Bel.drewN ?_ _ | refine Bel.alloc ?_ _ | refine Bel.setCell ?_ (by simp <;> omega) _ | refine Bel.trans ?_ (by assumption))) hb))
          clear hb hB14
          go_wp2
          go_ret
          exact ⟨rfl, HBZ.out⟩
      · have hbf : (decide (lo ≤ n) && decide (n ≤ hi)) = false := by
          cases g1 : decide (lo ≤ n) with
          | false => rfl
          | true => cases g2 : decide (n ≤ hi) with
            | false => rfl
            | true => exact absurd ⟨of_decide_eq_true g1, of_decide_eq_true g2⟩ hlo
        rw [hbf] at HHS
        clear hbf hlo w1' w2'
        go_enter Try.func11, Try.ntmps11
        go_wp2_with fail
        refine (HFR.out _ (HV.out.bel (by repeat (first | assumption | exact Bel.refl _ | refine Bel.drew ?_ | refine Bel.drewN ?_ _ | refine Bel.alloc ?_ _ | refine Bel.setCell ?_ (by simp <;> omega) _ | refine Bel.trans ?_ (by assumption))))).mono ?_
        rintro e w1 ⟨rfl, hb⟩
        have x0 : w1.cell? ⟨w.heap.size, 0, none⟩ = some (.int .i64 t.C) := hb.cell ((row_facts ((heap_alloc_old _ _ (by simp <;> omega)).trans (new_row rfl))).1 0)
        have x1 : w1.cell? ⟨w.heap.size, 1, none⟩ = some (.int .i64 t.T) := hb.cell ((row_facts ((heap_alloc_old _ _ (by simp <;> omega)).trans (new_row rfl))).1 1)
        have x2 : w1.cell? ⟨w.heap.size, 2, none⟩ = some (.slice a t.op.length c) := hb.cell ((row_facts ((heap_alloc_old _ _ (by simp <;> omega)).trans (new_row rfl))).1 2)
        have x3 : w1.cell? ⟨w.heap.size, 3, none⟩ = some (.slice wa t.ws.length wc) := hb.cell ((row_facts ((heap_alloc_old _ _ (by simp <;> omega)).trans (new_row rfl))).1 3)
        have k0 : w1.cell? ⟨w.heap.size + 1, 0, none⟩ = some (.int .i64 (i' : Int)) := hb.cell ((row_facts (new_row (by first | rfl | (simp; done)))).1 0)
        have k1 : w1.cell? ⟨w.heap.size + 1, 1, none⟩ = some (.int .i64 (k' : Int)) := hb.cell ((row_facts (new_row (by first | rfl | (simp; done)))).1 1)
        have hB1 : Bel w w1 := Bel.trans (by repeat (first | assumption | exact Bel.refl _ | refine Bel.drew ?_ | refine Bel.drewN ?_ _ | refine Bel.alloc ?_ _ | refine Bel.setCell ?_ (by simp <;> omega) _ | refine Bel.trans ?_ (by assumption))) hb
        have lx0 := cell_lt x0
        have lk0 := cell_lt k0
        replace HV := Lib.hid (HV.out.bel hB1)
        clear hb
        go_wp2_with fail
        refine (HRT.out _ (HV.out.bel (by repeat (first | assumption | exact Bel.refl _ | refine Bel.drew ?_ | refine Bel.drewN ?_ _ | refine Bel.alloc ?_ _ | refine Bel.setCell ?_ (by simp <;> omega) _ | refine Bel.trans ?_ (by assumption))))).mono ?_
        rintro e w2 ⟨rfl, hb⟩
        have hk : Bel w1 w2 := Bel.trans (by repeat (first | assumption | exact Bel.refl _ | refine Bel.drew ?_ | refine Bel.drewN ?_ _ | refine Bel.alloc ?_ _ | refine Bel.setCell ?_ (by simp <;> omega) _ | refine Bel.trans ?_ (by assumption))) hb
        replace x0 := hk.cell x0
        replace x1 := hk.cell x1
        replace x2 := hk.cell x2
        replace x3 := hk.cell x3
        replace k0 := hk.cell k0
        replace k1 := hk.cell k1
        have lx0 := cell_lt x0
        have lk0 := cell_lt k0
        have hB2 : Bel w w2 := hB1.trans hk
        replace HV := Lib.hid (HV.out.bel hk)
        clear hb hk hB1
        go_wp2_with fail
        refine (HIO.out _ (HV.out.bel (by repeat (first | assumption | exact Bel.refl _ | refine Bel.drew ?_ | refine Bel.drewN ?_ _ | refine Bel.alloc ?_ _ | refine Bel.setCell ?_ (by simp <;> omega) _ | refine Bel.trans ?_ (by assumption))))).mono ?_
        rintro e w3 ⟨rfl, hb⟩
        have hk : Bel w2 w3 := Bel.trans (by repeat (first | assumption | exact Bel.refl _ | refine Bel.drew ?_ | refine Bel.drewN ?_ _ | refine Bel.alloc ?_ _ | refine Bel.setCell ?_ (by simp <;> omega) _ | refine Bel.trans ?_ (by assumption))) hb
        replace x0 := hk.cell x0
        replace x1 := hk.cell x1
        replace x2 := hk.cell x2
        replace x3 := hk.cell x3
        replace k0 := hk.cell k0
        replace k1 := hk.cell k1
        have lx0 := cell_lt x0
        have lk0 := cell_lt k0
        have hB3 : Bel w w3 := hB2.trans hk
        replace HV := Lib.hid (HV.out.bel hk)
        clear hb hk hB2
        go_wp2_with fail
        refine (HIP.out _).mono ?_
        rintro e w4 ⟨rfl, hb⟩
        have hk : Bel w3 w4 := Bel.trans (by repeat (first | assumption | exact Bel.refl _ | refine Bel.drew ?_ | refine Bel.drewN ?_ _ | refine Bel.alloc ?_ _ | refine Bel.setCell ?_ (by simp <;> omega) _ | refine Bel.trans ?_ (by assumption))) hb
        replace x0 := hk.cell x0
        replace x1 := hk.cell x1
        replace x2 := hk.cell x2
        replace x3 := hk.cell x3
        replace k0 := hk.cell k0
        replace k1 := hk.cell k1
        have lx0 := cell_lt x0
        have lk0 := cell_lt k0
        have hB4 : Bel w w4 := hB3.trans hk
        replace HV := Lib.hid (HV.out.bel hk)
        clear hb hk hB3
        go_wp2_with fail
        refine (HDB.out _ (HV.out.bel (by repeat (first | assumption | exact Bel.refl _ | refine Bel.drew ?_ | refine Bel.drewN ?_ _ | refine Bel.alloc ?_ _ | refine Bel.setCell ?_ (by simp <;> omega) _ | refine Bel.trans ?_ (by assumption))))).mono ?_
        rintro e w5 ⟨rfl, hb⟩
        have hk : Bel w4 w5 := Bel.trans (by repeat (first | assumption | exact Bel.refl _ | refine Bel.drew ?_ | refine Bel.drewN ?_ _ | refine Bel.alloc ?_ _ | refine Bel.setCell ?_ (by simp <;> omega) _ | refine Bel.trans ?_ (by assumption))) hb
        replace x0 := hk.cell x0
        replace x1 := hk.cell x1
        replace x2 := hk.cell x2
        replace x3 := hk.cell x3
        replace k0 := hk.cell k0
        replace k1 := hk.cell k1
        have lx0 := cell_lt x0
        have lk0 := cell_lt k0
        have hB5 : Bel w w5 := hB4.trans hk
        replace HV := Lib.hid (HV.out.bel hk)
        clear hb hk hB4
        go_wp2_with fail
        refine (HTP.out _ (HV.out.bel (by repeat (first | assumption | exact Bel.refl _ | refine Bel.drew ?_ | refine Bel.drewN ?_ _ | refine Bel.alloc ?_ _ | refine Bel.setCell ?_ (by simp <;> omega) _ | refine Bel.trans ?_ (by assumption))))).mono ?_
        rintro e w6 ⟨rfl, hb⟩
        have hk : Bel w5 w6 := Bel.trans (by repeat (first | assumption | exact Bel.refl _ | refine Bel.drew ?_ | refine Bel.drewN ?_ _ | refine Bel.alloc ?_ _ | refine Bel.setCell ?_ (by simp <;> omega) _ | refine Bel.trans ?_ (by assumption))) hb
        replace x0 := hk.cell x0
        replace x1 := hk.cell x1
        replace x2 := hk.cell x2
        replace x3 := hk.cell x3
        replace k0 := hk.cell k0
        replace k1 := hk.cell k1
        have lx0 := cell_lt x0
        have lk0 := cell_lt k0
        have hB6 : Bel w w6 := hB5.trans hk
        replace HV := Lib.hid (HV.out.bel hk)
        clear hb hk hB5
        go_wp2_with fail
        refine (HAK.out _ (HV.out.bel (by repeat (first | assumption | exact Bel.refl _ | refine Bel.drew ?_ | refine Bel.drewN ?_ _ | refine Bel.alloc ?_ _ | refine Bel.setCell ?_ (by simp <;> omega) _ | refine Bel.trans ?_ (by assumption))))).mono ?_
        rintro e w7 ⟨rfl, hb⟩
        have hk : Bel w6 w7 := Bel.trans (by repeat (first | assumption | exact Bel.refl _ | refine Bel.drew ?_ | refine Bel.drewN ?_ _ | refine Bel.alloc ?_ _ | refine Bel.setCell ?_ (by simp <;> omega) _ | refine Bel.trans ?_ (by assumption))) hb
        replace x0 := hk.cell x0
        replace x1 := hk.cell x1
        replace x2 := hk.cell x2
        replace x3 := hk.cell x3
        replace k0 := hk.cell k0
        replace k1 := hk.cell k1
        have lx0 := cell_lt x0
        have lk0 := cell_lt k0
        have hB7 : Bel w w7 := hB6.trans hk
        replace HV := Lib.hid (HV.out.bel hk)
        clear hb hk hB6
        go_wp2_with fail
        refine (HTQ.out _ (HV.out.bel (by repeat (first | assumption | exact Bel.refl _ | refine Bel.drew ?_ | refine Bel.drewN ?_ _ | refine Bel.alloc ?_ _ | refine Bel.setCell ?_ (by simp <;> omega) _ | refine Bel.trans ?_ (by assumption))))).mono ?_
        rintro e w8 ⟨rfl, hb⟩
        have q0 : w8.cell? ⟨w7.heap.size, 0, none⟩ = some (.int .i64 (qi : Int)) := hb.cell ((row_facts ((heap_alloc_old _ _ (by simp <;> omega)).trans (new_row rfl))).1 0)
        have q1' : w8.cell? ⟨w7.heap.size, 1, none⟩ = some (.int .i64 (qc : Int)) := hb.cell ((row_facts ((heap_alloc_old _ _ (by simp <;> omega)).trans (new_row rfl))).1 1)
        have l0 : w8.cell? ⟨w7.heap.size + 1, 0, none⟩ = some (.int .i64 (t.T - 1)) := hb.cell ((row_facts (new_row (by first | rfl | (simp; done)))).1 0)
        have l1' : w8.cell? ⟨w7.heap.size + 1, 1, none⟩ = some (.int .i64 (t.C - 1)) := hb.cell ((row_facts (new_row (by first | rfl | (simp; done)))).1 1)
        have hk : Bel w7 w8 := Bel.trans (by repeat (first | assumption | exact Bel.refl _ | refine Bel.drew ?_ | refine Bel.drewN ?_ _ | refine Bel.alloc ?_ _ | refine Bel.setCell ?_ (by simp <;> omega) _ | refine Bel.trans ?_ (by assumption))) hb
        replace x0 := hk.cell x0
        replace x1 := hk.cell x1
        replace x2 := hk.cell x2
        replace x3 := hk.cell x3
        replace k0 := hk.cell k0
        replace k1 := hk.cell k1
        have lx0 := cell_lt x0
        have lk0 := cell_lt k0
        have lq0 := cell_lt q0
        have ll0 := cell_lt l0
        have hB8 : Bel w w8 := hB7.trans hk
        replace HV := Lib.hid (HV.out.bel hk)
        clear hb hk hB7
        go_wp2_with fail
        refine (HIQ.out _).mono ?_
        rintro e w9 ⟨rfl, hb⟩
        have hk : Bel w8 w9 := Bel.trans (by repeat (first | assumption | exact Bel.refl _ | refine Bel.drew ?_ | refine Bel.drewN ?_ _ | refine Bel.alloc ?_ _ | refine Bel.setCell ?_ (by simp <;> omega) _ | refine Bel.trans ?_ (by assumption))) hb
        replace x0 := hk.cell x0
        replace x1 := hk.cell x1
        replace x2 := hk.cell x2
        replace x3 := hk.cell x3
        replace k0 := hk.cell k0
        replace k1 := hk.cell k1
        replace q0 := hk.cell q0
        replace q1' := hk.cell q1'
        replace l0 := hk.cell l0
        replace l1' := hk.cell l1'
        have lx0 := cell_lt x0
        have lk0 := cell_lt k0
        have lq0 := cell_lt q0
        have ll0 := cell_lt l0
        have hB9 : Bel w w9 := hB8.trans hk
        replace HV := Lib.hid (HV.out.bel hk)
        clear hb hk hB8
        rcases E8.out with e8 | ⟨e8, e8b⟩ <;> rcases E9.out with ⟨e9, e9b⟩ | ⟨e9, e9b | ⟨e9b, e9c⟩⟩
        all_goals
          go_wp2_with fail
          refine (HFQ.out _ (HV.out.bel (by repeat (first | assumption | exact Bel.refl _ | refine Bel.drew ?_ | refine Bel.drewN ?_ _ | refine Bel.alloc ?_ _ | refine Bel.setCell ?_ (by simp <;> omega) _ | refine Bel.trans ?_ (by assumption))))).mono ?_
          rintro e w10 ⟨rfl, hb⟩
          have hk : Bel w9 w10 := Bel.trans (by repeat (first | assumption | exact Bel.refl _ | refine Bel.drew ?_ | refine Bel.drewN ?_ _ | refine Bel.alloc ?_ _ | refine Bel.setCell ?_ (by simp <;> omega) _ | refine Bel.trans ?_ (by assumption))) hb
          replace x0 := hk.cell x0
          replace x1 := hk.cell x1
          replace x2 := hk.cell x2
          replace x3 := hk.cell x3
          replace k0 := hk.cell k0
          replace k1 := hk.cell k1
          replace q0 := hk.cell q0
          replace q1' := hk.cell q1'
          replace l0 := hk.cell l0
          replace l1' := hk.cell l1'
          have lx0 := cell_lt x0
          have lk0 := cell_lt k0
          have lq0 := cell_lt q0
          have ll0 := cell_lt l0
          have hB10 : Bel w w10 := hB9.trans hk
          replace HV := Lib.hid (HV.out.bel hk)
          clear hb hk hB9
          go_wp2_with fail
          refine (HWI.out _).mono ?_
          rintro e w11 ⟨rfl, hb⟩
          have s0 : w11.cell? ⟨w10.heap.size, 0, none⟩ = some (.int .i64 lo) := hb.cell ((row_facts (new_row (by first | rfl | (simp; done)))).1 0)
          have s1 : w11.cell? ⟨w10.heap.size, 1, none⟩ = some (.int .i64 hi) := hb.cell ((row_facts (new_row (by first | rfl | (simp; done)))).1 1)
          have hk : Bel w10 w11 := Bel.trans (by repeat (first | assumption | exact Bel.refl _ | refine Bel.drew ?_ | refine Bel.drewN ?_ _ | refine Bel.alloc ?_ _ | refine Bel.setCell ?_ (by simp <;> omega) _ | refine Bel.trans ?_ (by assumption))) hb
          replace x0 := hk.cell x0
          replace x1 := hk.cell x1
          replace x2 := hk.cell x2
          replace x3 := hk.cell x3
          replace k0 := hk.cell k0
          replace k1 := hk.cell k1
          replace q0 := hk.cell q0
          replace q1' := hk.cell q1'
          replace l0 := hk.cell l0
          replace l1' := hk.cell l1'
          have lx0 := cell_lt x0
          have lk0 := cell_lt k0
          have lq0 := cell_lt q0
          have ll0 := cell_lt l0
          have ls0 := cell_lt s0
          have hB11 : Bel w w11 := hB10.trans hk
          replace HV := Lib.hid (HV.out.bel hk)
          clear hb hk hB10
          go_wp2_with fail
          refine (HHS.out _).mono ?_
          rintro e w12 ⟨rfl, hb⟩
          have hk : Bel w11 w12 := Bel.trans (by repeat (first | assumption | exact Bel.refl _ | refine Bel.drew ?_ | refine Bel.drewN ?_ _ | refine Bel.alloc ?_ _ | refine Bel.setCell ?_ (by simp <;> omega) _ | refine Bel.trans ?_ (by assumption))) hb
          replace x0 := hk.cell x0
          replace x1 := hk.cell x1
          replace x2 := hk.cell x2
          replace x3 := hk.cell x3
          replace k0 := hk.cell k0
          replace k1 := hk.cell k1
          replace q0 := hk.cell q0
          replace q1' := hk.cell q1'
          replace l0 := hk.cell l0
          replace l1' := hk.cell l1'
          replace s0 := hk.cell s0
          replace s1 := hk.cell s1
          have lx0 := cell_lt x0
          have lk0 := cell_lt k0
          have lq0 := cell_lt q0
          have ll0 := cell_lt l0
          have ls0 := cell_lt s0
          have hB12 : Bel w w12 := hB11.trans hk
          replace HV := Lib.hid (HV.out.bel hk)
          clear hb hk hB11
          go_wp2_with fail
          refine (works_any _).mono ?_
          rintro e wz ⟨rfl, hb⟩
          have HBZ := Lib.hid (hB12.trans (Bel.trans (by repeat (first | assumption | exact Bel.refl _ | refine Bel.drew ?_ | refine Bel.drewN ?_ _ | refine Bel.alloc ?_ _ | refine Bel.setCell ?_ (by simp <;> omega) _ | refine Bel.trans ?_ (by assumption))) hb))
          clear hb hB12
          go_wp2
          go_ret
          exact ⟨rfl, HBZ.out⟩
end Go.Proofs.Ytoiajjdhgffdaaa
