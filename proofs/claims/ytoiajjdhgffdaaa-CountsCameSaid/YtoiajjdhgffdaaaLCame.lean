/-
  law: CountsCame: Came and Passed are what the document says, for every trap and two numbers; the call changes nothing that was there
-/
import Derived.Test.YtoiajjdhgffdaaaWorks
import Derived.Test.YtoiajjdhgffdaaaSame
import Derived.Test.YtoiajjdhgffdaaaSmall
import Derived.Test.YtoiajjdhgffdaaaRSpan2
import Derived.Test.YtoiajjdhgffdaaaRSpan3
namespace Go.Proofs.Ytoiajjdhgffdaaa
open Go Go.RowKit
set_option maxHeartbeats 4000000
set_option maxRecDepth 100000
theorem CountsCame_any (t : CT) (v : Value) (i k : Int) (w : World) (hv : TrapAt w v t) : Calls Try.prog 9 #[v, .int .i64 i, .int .i64 k] w fun e w' => e = .returned (.bool true) ∧ Bel w w' := by
  have HV := Lib.hid hv
  have HUG := Lib.hid (fun wx hx => Huge_any t v wx hx)
  by_cases hh : HugeB t = true
  · rw [hh] at HUG
    obtain ⟨ov, wv, rfl, ⟨a, c, b, off, rv, rfl, _⟩, ⟨wa, wc, wb, woff, rfl, _⟩⟩ := hv
    go_enter Try.func9, Try.ntmps9
    go_wp2_with (first
      | (go_at_call 34; refine (HUG.out _ (HV.out.bel (by repeat (first | assumption | exact Bel.refl _ | refine Bel.drew ?_ | refine Bel.drewN ?_ _ | refine Bel.alloc ?_ _ | refine Bel.setCell ?_ (by simp <;> omega) _ | refine Bel.trans ?_ (by assumption))))).mono ?_; rintro e w' ⟨rfl, hb⟩)
      | (go_at_call 18; refine (works_any _).mono ?_; rintro e w'' ⟨rfl, hb2⟩))
    go_ret
    exact ⟨rfl, (by repeat (first | assumption | exact Bel.refl _ | refine Bel.drew ?_ | refine Bel.drewN ?_ _ | refine Bel.alloc ?_ _ | refine Bel.setCell ?_ (by simp <;> omega) _ | refine Bel.trans ?_ (by assumption)))⟩
  · have hh : HugeB t = false := by simpa using hh
    rw [hh] at HUG
    have hroom := room_small hh
    have HCP := Lib.hid (fun wx hx => (Copy_any t v wx hx hroom).mono fun e w' h => h.trap (by have := hroom.ws; omega))
    clear hroom hh
    obtain ⟨ov, wv, rfl, ⟨a, c, b, off, rv, rfl, _⟩, ⟨wa, wc, wb, woff, rfl, _⟩⟩ := hv
    have HP0 := Lib.hid (fun (v' : Value) wx hx => Came_any t v' i k wx hx)
    have HR0 := Lib.hid (fun wx hx => RCame_any t (.agg #[.int .i64 t.C, .int .i64 t.T, .slice a t.op.length c, .slice wa t.ws.length wc]) i k wx hx)
    unfold SpanPost at HP0 HR0
    generalize (if errR t (cameB t.T i k) = 0 then cameLo t i k else 0) = a0 at HP0 HR0
    generalize (if errR t (cameB t.T i k) = 0 then cameHi t i k else 0) = b0 at HP0 HR0
    generalize errR t (cameB t.T i k) = e0 at HP0 HR0
    have HP1 := Lib.hid (fun (v' : Value) wx hx => Passed_any t v' i k wx hx)
    have HR1 := Lib.hid (fun wx hx => RPassed_any t (.agg #[.int .i64 t.C, .int .i64 t.T, .slice a t.op.length c, .slice wa t.ws.length wc]) i k wx hx)
    unfold SpanPost at HP1 HR1
    generalize (if errR t (passB t.C t.T i k) = 0 then passLo t i k else 0) = a1 at HP1 HR1
    generalize (if errR t (passB t.C t.T i k) = 0 then passHi t i k else 0) = b1 at HP1 HR1
    generalize errR t (passB t.C t.T i k) = e1 at HP1 HR1
    go_enter Try.func9, Try.ntmps9
    go_wp2_with fail
    refine (HUG.out _ (HV.out.bel (by repeat (first | assumption | exact Bel.refl _ | refine Bel.drew ?_ | refine Bel.drewN ?_ _ | refine Bel.alloc ?_ _ | refine Bel.setCell ?_ (by simp <;> omega) _ | refine Bel.trans ?_ (by assumption))))).mono ?_
    rintro e w1 ⟨rfl, hb⟩
    have x0 : w1.cell? ⟨w.heap.size, 0, none⟩ = some (.int .i64 t.C) := hb.cell ((row_facts (new_row (by first | rfl | (simp; done)))).1 0)
    have x1 : w1.cell? ⟨w.heap.size, 1, none⟩ = some (.int .i64 t.T) := hb.cell ((row_facts (new_row (by first | rfl | (simp; done)))).1 1)
    have x2 : w1.cell? ⟨w.heap.size, 2, none⟩ = some (.slice a t.op.length c) := hb.cell ((row_facts (new_row (by first | rfl | (simp; done)))).1 2)
    have x3 : w1.cell? ⟨w.heap.size, 3, none⟩ = some (.slice wa t.ws.length wc) := hb.cell ((row_facts (new_row (by first | rfl | (simp; done)))).1 3)
    have hB1 : Bel w w1 := Bel.trans (by repeat (first | assumption | exact Bel.refl _ | refine Bel.drew ?_ | refine Bel.drewN ?_ _ | refine Bel.alloc ?_ _ | refine Bel.setCell ?_ (by simp <;> omega) _ | refine Bel.trans ?_ (by assumption))) hb
    have lx0 := cell_lt x0
    replace HV := Lib.hid (HV.out.bel hB1)
    clear hb
    go_wp2_with fail
    refine (HCP.out _ (HV.out.bel (by repeat (first | assumption | exact Bel.refl _ | refine Bel.drew ?_ | refine Bel.drewN ?_ _ | refine Bel.alloc ?_ _ | refine Bel.setCell ?_ (by simp <;> omega) _ | refine Bel.trans ?_ (by assumption))))).mono ?_
    rintro e w2 ⟨v', rfl, hb, hO⟩
    have hk : Bel w1 w2 := Bel.trans (by repeat (first | assumption | exact Bel.refl _ | refine Bel.drew ?_ | refine Bel.drewN ?_ _ | refine Bel.alloc ?_ _ | refine Bel.setCell ?_ (by simp <;> omega) _ | refine Bel.trans ?_ (by assumption))) hb
    replace x0 := hk.cell x0
    replace x1 := hk.cell x1
    replace x2 := hk.cell x2
    replace x3 := hk.cell x3
    have lx0 := cell_lt x0
    have hB2 : Bel w w2 := hB1.trans hk
    replace HV := Lib.hid (HV.out.bel hk)
    clear hb hk hB1
    have HO := Lib.hid hO
    obtain ⟨ov2, wv2, rfl, ⟨a2, c2, b2, off2, rv2, rfl, _⟩, ⟨wa2, wc2, wb2, woff2, rfl, _⟩⟩ := hO
    go_wp2_with fail
    refine (HP0.out (.agg #[.int .i64 t.C, .int .i64 t.T, .slice a2 t.op.length c2, .slice wa2 t.ws.length wc2]) _ (HO.out.bel (by repeat (first | assumption | exact Bel.refl _ | refine Bel.drew ?_ | refine Bel.drewN ?_ _ | refine Bel.alloc ?_ _ | refine Bel.setCell ?_ (by simp <;> omega) _ | refine Bel.trans ?_ (by assumption))))).mono ?_
    rintro e w3 ⟨rfl, hb⟩
    have y0 : w3.cell? ⟨w2.heap.size, 0, none⟩ = some (.int .i64 t.C) := hb.cell ((row_facts (new_row (by first | rfl | (simp; done)))).1 0)
    have y1 : w3.cell? ⟨w2.heap.size, 1, none⟩ = some (.int .i64 t.T) := hb.cell ((row_facts (new_row (by first | rfl | (simp; done)))).1 1)
    have y2 : w3.cell? ⟨w2.heap.size, 2, none⟩ = some (.slice a2 t.op.length c2) := hb.cell ((row_facts (new_row (by first | rfl | (simp; done)))).1 2)
    have y3 : w3.cell? ⟨w2.heap.size, 3, none⟩ = some (.slice wa2 t.ws.length wc2) := hb.cell ((row_facts (new_row (by first | rfl | (simp; done)))).1 3)
    have hk : Bel w2 w3 := Bel.trans (by repeat (first | assumption | exact Bel.refl _ | refine Bel.drew ?_ | refine Bel.drewN ?_ _ | refine Bel.alloc ?_ _ | refine Bel.setCell ?_ (by simp <;> omega) _ | refine Bel.trans ?_ (by assumption))) hb
    replace x0 := hk.cell x0
    replace x1 := hk.cell x1
    replace x2 := hk.cell x2
    replace x3 := hk.cell x3
    have lx0 := cell_lt x0
    have ly0 := cell_lt y0
    have hB3 : Bel w w3 := hB2.trans hk
    replace HV := Lib.hid (HV.out.bel hk)
    replace HO := Lib.hid (HO.out.bel hk)
    clear hb hk hB2
    go_wp2_with fail
    refine (HR0.out _ (HV.out.bel (by repeat (first | assumption | exact Bel.refl _ | refine Bel.drew ?_ | refine Bel.drewN ?_ _ | refine Bel.alloc ?_ _ | refine Bel.setCell ?_ (by simp <;> omega) _ | refine Bel.trans ?_ (by assumption))))).mono ?_
    rintro e w4 ⟨rfl, hb⟩
    have s0 : w4.cell? ⟨w3.heap.size, 0, none⟩ = some (.int .i64 a0) := hb.cell ((row_facts (new_row (by first | rfl | (simp; done)))).1 0)
    have s1 : w4.cell? ⟨w3.heap.size, 1, none⟩ = some (.int .i64 b0) := hb.cell ((row_facts (new_row (by first | rfl | (simp; done)))).1 1)
    have hk : Bel w3 w4 := Bel.trans (by repeat (first | assumption | exact Bel.refl _ | refine Bel.drew ?_ | refine Bel.drewN ?_ _ | refine Bel.alloc ?_ _ | refine Bel.setCell ?_ (by simp <;> omega) _ | refine Bel.trans ?_ (by assumption))) hb
    replace x0 := hk.cell x0
    replace x1 := hk.cell x1
    replace x2 := hk.cell x2
    replace x3 := hk.cell x3
    replace y0 := hk.cell y0
    replace y1 := hk.cell y1
    replace y2 := hk.cell y2
    replace y3 := hk.cell y3
    have lx0 := cell_lt x0
    have ly0 := cell_lt y0
    have ls0 := cell_lt s0
    have hB4 : Bel w w4 := hB3.trans hk
    replace HV := Lib.hid (HV.out.bel hk)
    replace HO := Lib.hid (HO.out.bel hk)
    clear hb hk hB3
    go_wp2_with fail
    refine (HP1.out (.agg #[.int .i64 t.C, .int .i64 t.T, .slice a2 t.op.length c2, .slice wa2 t.ws.length wc2]) _ (HO.out.bel (by repeat (first | assumption | exact Bel.refl _ | refine Bel.drew ?_ | refine Bel.drewN ?_ _ | refine Bel.alloc ?_ _ | refine Bel.setCell ?_ (by simp <;> omega) _ | refine Bel.trans ?_ (by assumption))))).mono ?_
    rintro e w5 ⟨rfl, hb⟩
    have t0 : w5.cell? ⟨w4.heap.size, 0, none⟩ = some (.int .i64 a0) := hb.cell ((row_facts (new_row (by first | rfl | (simp; done)))).1 0)
    have t1 : w5.cell? ⟨w4.heap.size, 1, none⟩ = some (.int .i64 b0) := hb.cell ((row_facts (new_row (by first | rfl | (simp; done)))).1 1)
    have hk : Bel w4 w5 := Bel.trans (by repeat (first | assumption | exact Bel.refl _ | refine Bel.drew ?_ | refine Bel.drewN ?_ _ | refine Bel.alloc ?_ _ | refine Bel.setCell ?_ (by simp <;> omega) _ | refine Bel.trans ?_ (by assumption))) hb
    replace x0 := hk.cell x0
    replace x1 := hk.cell x1
    replace x2 := hk.cell x2
    replace x3 := hk.cell x3
    replace y0 := hk.cell y0
    replace y1 := hk.cell y1
    replace y2 := hk.cell y2
    replace y3 := hk.cell y3
    replace s0 := hk.cell s0
    replace s1 := hk.cell s1
    have lx0 := cell_lt x0
    have ly0 := cell_lt y0
    have ls0 := cell_lt s0
    have lt0 := cell_lt t0
    have hB5 : Bel w w5 := hB4.trans hk
    replace HV := Lib.hid (HV.out.bel hk)
    replace HO := Lib.hid (HO.out.bel hk)
    clear hb hk hB4
    go_wp2_with fail
    refine (HR1.out _ (HV.out.bel (by repeat (first | assumption | exact Bel.refl _ | refine Bel.drew ?_ | refine Bel.drewN ?_ _ | refine Bel.alloc ?_ _ | refine Bel.setCell ?_ (by simp <;> omega) _ | refine Bel.trans ?_ (by assumption))))).mono ?_
    rintro e w6 ⟨rfl, hb⟩
    have u0 : w6.cell? ⟨w5.heap.size, 0, none⟩ = some (.int .i64 a1) := hb.cell ((row_facts (new_row (by first | rfl | (simp; done)))).1 0)
    have u1 : w6.cell? ⟨w5.heap.size, 1, none⟩ = some (.int .i64 b1) := hb.cell ((row_facts (new_row (by first | rfl | (simp; done)))).1 1)
    have hk : Bel w5 w6 := Bel.trans (by repeat (first | assumption | exact Bel.refl _ | refine Bel.drew ?_ | refine Bel.drewN ?_ _ | refine Bel.alloc ?_ _ | refine Bel.setCell ?_ (by simp <;> omega) _ | refine Bel.trans ?_ (by assumption))) hb
    replace x0 := hk.cell x0
    replace x1 := hk.cell x1
    replace x2 := hk.cell x2
    replace x3 := hk.cell x3
    replace y0 := hk.cell y0
    replace y1 := hk.cell y1
    replace y2 := hk.cell y2
    replace y3 := hk.cell y3
    replace s0 := hk.cell s0
    replace s1 := hk.cell s1
    replace t0 := hk.cell t0
    replace t1 := hk.cell t1
    have lx0 := cell_lt x0
    have ly0 := cell_lt y0
    have ls0 := cell_lt s0
    have lt0 := cell_lt t0
    have lu0 := cell_lt u0
    have hB6 : Bel w w6 := hB5.trans hk
    replace HV := Lib.hid (HV.out.bel hk)
    replace HO := Lib.hid (HO.out.bel hk)
    clear hb hk hB5
    go_wp2_with fail
    refine (Same_eq _ _ t _ (HO.out.bel (by repeat (first | assumption | exact Bel.refl _ | refine Bel.drew ?_ | refine Bel.drewN ?_ _ | refine Bel.alloc ?_ _ | refine Bel.setCell ?_ (by simp <;> omega) _ | refine Bel.trans ?_ (by assumption)))) (HV.out.bel (by repeat (first | assumption | exact Bel.refl _ | refine Bel.drew ?_ | refine Bel.drewN ?_ _ | refine Bel.alloc ?_ _ | refine Bel.setCell ?_ (by simp <;> omega) _ | refine Bel.trans ?_ (by assumption))))).mono ?_
    rintro e w7 ⟨rfl, hb⟩
    have z0 : w7.cell? ⟨w6.heap.size, 0, none⟩ = some (.int .i64 a1) := hb.cell ((row_facts (new_row (by first | rfl | (simp; done)))).1 0)
    have z1 : w7.cell? ⟨w6.heap.size, 1, none⟩ = some (.int .i64 b1) := hb.cell ((row_facts (new_row (by first | rfl | (simp; done)))).1 1)
    have hk : Bel w6 w7 := Bel.trans (by repeat (first | assumption | exact Bel.refl _ | refine Bel.drew ?_ | refine Bel.drewN ?_ _ | refine Bel.alloc ?_ _ | refine Bel.setCell ?_ (by simp <;> omega) _ | refine Bel.trans ?_ (by assumption))) hb
    replace x0 := hk.cell x0
    replace x1 := hk.cell x1
    replace x2 := hk.cell x2
    replace x3 := hk.cell x3
    replace y0 := hk.cell y0
    replace y1 := hk.cell y1
    replace y2 := hk.cell y2
    replace y3 := hk.cell y3
    replace s0 := hk.cell s0
    replace s1 := hk.cell s1
    replace t0 := hk.cell t0
    replace t1 := hk.cell t1
    replace u0 := hk.cell u0
    replace u1 := hk.cell u1
    have lx0 := cell_lt x0
    have ly0 := cell_lt y0
    have ls0 := cell_lt s0
    have lt0 := cell_lt t0
    have lu0 := cell_lt u0
    have lz0 := cell_lt z0
    have hB7 : Bel w w7 := hB6.trans hk
    replace HV := Lib.hid (HV.out.bel hk)
    replace HO := Lib.hid (HO.out.bel hk)
    clear hb hk hB6
    clear s0 s1 t0 t1 u0 u1 z0 z1 ls0 lt0 lu0 lz0 x0 x1 x2 x3 y0 y1 y2 y3 lx0 ly0 HP0 HR0 HP1 HR1
    go_wp2_with fail
    refine (works_any _).mono ?_
    rintro e w8 ⟨rfl, hb⟩
    have HB8 := Lib.hid (hB7.trans (Bel.trans (by repeat (first | assumption | exact Bel.refl _ | refine Bel.drew ?_ | refine Bel.drewN ?_ _ | refine Bel.alloc ?_ _ | refine Bel.setCell ?_ (by simp <;> omega) _ | refine Bel.trans ?_ (by assumption))) hb))
    clear hb hB7
    go_wp2
    go_ret
    exact ⟨rfl, HB8.out⟩
end Go.Proofs.Ytoiajjdhgffdaaa
