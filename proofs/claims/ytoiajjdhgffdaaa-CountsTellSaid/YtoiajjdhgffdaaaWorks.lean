/-
  law: works returns true.
-/
import Derived.Test.YtoiajjdhgffdaaaExample
import Derived.Test.YtoiajjdhgffdaaaTruth
import Derived.Test.YtoiajjdhgffdaaaJudge
import Derived.Test.YtoiajjdhgffdaaaTell2
import Derived.Test.YtoiajjdhgffdaaaEnough2
namespace Go.Proofs.Ytoiajjdhgffdaaa
open Go Go.RowKit
set_option maxHeartbeats 2000000
set_option maxRecDepth 100000
theorem span_ok {er lo hi a b : Int} {w w' : World} {e : Ending} (he : er = 0) (h1 : lo = a) (h2 : hi = b) (h : SpanPost er lo hi w e w') : e = .returned (.tuple #[.agg #[.int .i64 a, .int .i64 b], .int .i64 0]) ∧ Bel w w' := by
  obtain ⟨rfl, hb⟩ := h
  rw [if_pos he, if_pos he, he, h1, h2]
  exact ⟨rfl, hb⟩
theorem int_ok {er r a : Int} {w w' : World} {e : Ending} (he : er = 0) (h1 : r = a) (h : IntPost er r w e w') : e = .returned (.tuple #[.int .i64 a, .int .i64 0]) ∧ Bel w w' := by
  obtain ⟨rfl, hb⟩ := h
  rw [if_pos he, he, h1]
  exact ⟨rfl, hb⟩
theorem enough_ok {w w' : World} {e : Ending} (h : EnoughPost exT 4 w e w') : e = .returned (.tuple #[.agg #[.int .i64 1, .int .i64 2], .int .i64 0]) ∧ Bel w w' := by
  have h0 : errR exT (withinB 4 1 40) = 0 := exT_err _ (by decide)
  rcases h with ⟨h, _⟩ | ⟨_, r1, r2, h1, h2, h⟩
  · exact absurd h0 h
  · obtain ⟨e1, e2⟩ := ex_enough h1 h2
    exact span_ok (by rw [e2]; rfl) e1 e2 h
theorem truth_none {w w' : World} {e : Ending} (h : TruthPost exQ w e w') : e = .returned (.tuple #[.slice none 0 0, .int .i64 3]) ∧ Bel w w' := by
  have h0 : errR exQ true = 3 := exQ_err _ rfl
  rcases h with ⟨_, h, hb⟩ | ⟨h, _⟩
  · rw [h0] at h; exact ⟨h, hb⟩
  · rw [h0] at h; cases h
theorem works_any (w : World) : Calls Try.prog 18 #[] w fun e w' => e = .returned (.bool true) ∧ Bel w w' := by
  go_enter Try.func18, Try.ntmps18
  go_wp2_with fail
  refine (Example_any _).mono ?_
  rintro e w0 ⟨vt, vq, rfl, hb0, hT, hQ⟩
  have hB0 : Bel w w0 := Bel.trans (by repeat (first | assumption | exact Bel.refl _ | refine Bel.drew ?_ | refine Bel.drewN ?_ _ | refine Bel.alloc ?_ _ | refine Bel.setCell ?_ (by simp <;> omega) _ | refine Bel.trans ?_ (by assumption))) hb0
  have HVT := Lib.hid hT
  have HVQ := Lib.hid hQ
  obtain ⟨ov, wv, rfl, ⟨a, c, b, off, rv, rfl, _⟩, ⟨wa, wc, wb, woff, rfl, _⟩⟩ := hT
  obtain ⟨ov, wv, rfl, ⟨a', c', b', off', rv', rfl, _⟩, ⟨wa', wc', wb', woff', rfl, _⟩⟩ := hQ
  have HF1 := Lib.hid (fun wx hx => (Fish_any exT (.agg #[.int .i64 exT.C, .int .i64 exT.T, .slice a exT.op.length c, .slice wa exT.ws.length wc]) 2 1 wx hx).mono fun e w' h => span_ok (exT_err _ (by kernel_rfl)) ex_fish.1 ex_fish.2 h)
  have HF2 := Lib.hid (fun wx hx => (Whole_any exT (.agg #[.int .i64 exT.C, .int .i64 exT.T, .slice a exT.op.length c, .slice wa exT.ws.length wc]) 2 wx hx).mono fun e w' h => span_ok (exT_err _ (by kernel_rfl)) ex_whole.1 ex_whole.2 h)
  have HF3 := Lib.hid (fun wx hx => (Passed_any exT (.agg #[.int .i64 exT.C, .int .i64 exT.T, .slice a exT.op.length c, .slice wa exT.ws.length wc]) 1 1 wx hx).mono fun e w' h => span_ok (exT_err _ (by kernel_rfl)) ex_passed.1 ex_passed.2 h)
  have HF5 := Lib.hid (fun wx hx => (Judge_any exT (.agg #[.int .i64 exT.C, .int .i64 exT.T, .slice a exT.op.length c, .slice wa exT.ws.length wc]) ⟨0, 0, 7, 9⟩ wx hx).mono fun e w' h => int_ok (exT_err _ (by kernel_rfl)) ex_judge h)
  have HF6 := Lib.hid (fun wx hx => (Enough_any exT (.agg #[.int .i64 exT.C, .int .i64 exT.T, .slice a exT.op.length c, .slice wa exT.ws.length wc]) 4 wx hx).mono fun e w' h => enough_ok h)
  have HF7 := Lib.hid (fun wx hx => (Tell_any exT (.agg #[.int .i64 exT.C, .int .i64 exT.T, .slice a exT.op.length c, .slice wa exT.ws.length wc]) 2 0 wx hx).mono fun e w' h => int_ok (exT_err _ (by kernel_rfl)) ex_tell h)
  have HF8 := Lib.hid (fun wx hx => (Truth_any exQ (.agg #[.int .i64 exQ.C, .int .i64 exQ.T, .slice a' exQ.op.length c', .slice wa' exQ.ws.length wc']) wx hx).mono fun e w' h => truth_none h)
  clear hb0
  go_wp2_with fail
  refine (HF1.out _ (HVT.out.bel (by repeat (first | assumption | exact Bel.refl _ | refine Bel.drew ?_ | refine Bel.drewN ?_ _ | refine Bel.alloc ?_ _ | refine Bel.setCell ?_ (by simp <;> omega) _ | refine Bel.trans ?_ (by assumption))))).mono ?_
  rintro e w1 ⟨rfl, hb⟩
  have x0 : w1.cell? ⟨w0.heap.size, 0, none⟩ = some (.int .i64 exT.C) := hb.cell ((row_facts ((heap_alloc_old _ _ (by simp)).trans (new_row rfl))).1 0)
  have x1 : w1.cell? ⟨w0.heap.size, 1, none⟩ = some (.int .i64 exT.T) := hb.cell ((row_facts ((heap_alloc_old _ _ (by simp)).trans (new_row rfl))).1 1)
  have x2 : w1.cell? ⟨w0.heap.size, 2, none⟩ = some (.slice a exT.op.length c) := hb.cell ((row_facts ((heap_alloc_old _ _ (by simp)).trans (new_row rfl))).1 2)
  have x3 : w1.cell? ⟨w0.heap.size, 3, none⟩ = some (.slice wa exT.ws.length wc) := hb.cell ((row_facts ((heap_alloc_old _ _ (by simp)).trans (new_row rfl))).1 3)
  have y0 : w1.cell? ⟨w0.heap.size + 1, 0, none⟩ = some (.int .i64 exQ.C) := hb.cell ((row_facts (new_row (by simp))).1 0)
  have y1 : w1.cell? ⟨w0.heap.size + 1, 1, none⟩ = some (.int .i64 exQ.T) := hb.cell ((row_facts (new_row (by simp))).1 1)
  have y2 : w1.cell? ⟨w0.heap.size + 1, 2, none⟩ = some (.slice a' exQ.op.length c') := hb.cell ((row_facts (new_row (by simp))).1 2)
  have y3 : w1.cell? ⟨w0.heap.size + 1, 3, none⟩ = some (.slice wa' exQ.ws.length wc') := hb.cell ((row_facts (new_row (by simp))).1 3)
  have hk : Bel w0 w1 := Bel.trans (by repeat (first | assumption | exact Bel.refl _ | refine Bel.drew ?_ | refine Bel.drewN ?_ _ | refine Bel.alloc ?_ _ | refine Bel.setCell ?_ (by simp <;> omega) _ | refine Bel.trans ?_ (by assumption))) hb
  have lx0 := cell_lt x0
  have ly0 := cell_lt y0
  have hB1 : Bel w w1 := hB0.trans hk
  replace HVT := Lib.hid (HVT.out.bel hk)
  replace HVQ := Lib.hid (HVQ.out.bel hk)
  clear hb hk hB0
  go_wp2_with fail
  refine (HF2.out _ (HVT.out.bel (by repeat (first | assumption | exact Bel.refl _ | refine Bel.drew ?_ | refine Bel.drewN ?_ _ | refine Bel.alloc ?_ _ | refine Bel.setCell ?_ (by simp <;> omega) _ | refine Bel.trans ?_ (by assumption))))).mono ?_
  rintro e w2 ⟨rfl, hb⟩
  have s0 : w2.cell? ⟨w1.heap.size, 0, none⟩ = some (.int .i64 4) := hb.cell ((row_facts (new_row (by simp))).1 0)
  have s1 : w2.cell? ⟨w1.heap.size, 1, none⟩ = some (.int .i64 10) := hb.cell ((row_facts (new_row (by simp))).1 1)
  have hk : Bel w1 w2 := Bel.trans (by repeat (first | assumption | exact Bel.refl _ | refine Bel.drew ?_ | refine Bel.drewN ?_ _ | refine Bel.alloc ?_ _ | refine Bel.setCell ?_ (by simp <;> omega) _ | refine Bel.trans ?_ (by assumption))) hb
  replace x0 := hk.cell x0
  replace x1 := hk.cell x1
  replace x2 := hk.cell x2
  replace x3 := hk.cell x3
  replace y0 := hk.cell y0
  replace y1 := hk.cell y1
  replace y2 := hk.cell y2
  replace y3 := hk.cell y3
  have lx0 := cell_lt x0
  have ly0 := cell_lt y0
  have ls0 := cell_lt s0
  have hB2 : Bel w w2 := hB1.trans hk
  replace HVT := Lib.hid (HVT.out.bel hk)
  replace HVQ := Lib.hid (HVQ.out.bel hk)
  clear hb hk hB1
  go_wp2_with fail
  refine (HF3.out _ (HVT.out.bel (by repeat (first | assumption | exact Bel.refl _ | refine Bel.drew ?_ | refine Bel.drewN ?_ _ | refine Bel.alloc ?_ _ | refine Bel.setCell ?_ (by simp <;> omega) _ | refine Bel.trans ?_ (by assumption))))).mono ?_
  rintro e w3 ⟨rfl, hb⟩
  have u0 : w3.cell? ⟨w2.heap.size, 0, none⟩ = some (.int .i64 5) := hb.cell ((row_facts (new_row (by simp))).1 0)
  have u1 : w3.cell? ⟨w2.heap.size, 1, none⟩ = some (.int .i64 18) := hb.cell ((row_facts (new_row (by simp))).1 1)
  have hk : Bel w2 w3 := Bel.trans (by repeat (first | assumption | exact Bel.refl _ | refine Bel.drew ?_ | refine Bel.drewN ?_ _ | refine Bel.alloc ?_ _ | refine Bel.setCell ?_ (by simp <;> omega) _ | refine Bel.trans ?_ (by assumption))) hb
  replace x0 := hk.cell x0
  replace x1 := hk.cell x1
  replace x2 := hk.cell x2
  replace x3 := hk.cell x3
  replace y0 := hk.cell y0
  replace y1 := hk.cell y1
  replace y2 := hk.cell y2
  replace y3 := hk.cell y3
  replace s0 := hk.cell s0
  replace s1 := hk.cell s1
  have lx0 := cell_lt x0
  have ly0 := cell_lt y0
  have ls0 := cell_lt s0
  have lu0 := cell_lt u0
  have hB3 : Bel w w3 := hB2.trans hk
  replace HVT := Lib.hid (HVT.out.bel hk)
  replace HVQ := Lib.hid (HVQ.out.bel hk)
  clear hb hk hB2
  go_upto_region 5 with fail
  have hk : Bel w3 (w3.alloc (Obj.cells #[.int .i64 0, .int .i64 8] 32)) := (Bel.refl _).alloc _
  have v0 : (w3.alloc (Obj.cells #[.int .i64 0, .int .i64 8] 32)).cell? ⟨w3.heap.size, 0, none⟩ = some (.int .i64 0) := (row_facts (new_row rfl)).1 0
  have v1 : (w3.alloc (Obj.cells #[.int .i64 0, .int .i64 8] 32)).cell? ⟨w3.heap.size, 1, none⟩ = some (.int .i64 8) := (row_facts (new_row rfl)).1 1
  generalize w3.alloc (Obj.cells #[.int .i64 0, .int .i64 8] 32) = w4 at *
  replace x0 := hk.cell x0
  replace x1 := hk.cell x1
  replace x2 := hk.cell x2
  replace x3 := hk.cell x3
  replace y0 := hk.cell y0
  replace y1 := hk.cell y1
  replace y2 := hk.cell y2
  replace y3 := hk.cell y3
  replace s0 := hk.cell s0
  replace s1 := hk.cell s1
  replace u0 := hk.cell u0
  replace u1 := hk.cell u1
  have lx0 := cell_lt x0
  have ly0 := cell_lt y0
  have ls0 := cell_lt s0
  have lu0 := cell_lt u0
  have lv0 := cell_lt v0
  have hB4 : Bel w w4 := hB3.trans hk
  replace HVT := Lib.hid (HVT.out.bel hk)
  replace HVQ := Lib.hid (HVQ.out.bel hk)
  clear hk hB3
  refine wp_region_mixB (Plan.seq [0, 1001, 1002, 3, 4, 5, 6, 7] .nil) (by kernel_rfl) (by kernel_rfl) (fun hcur => ?_)
  simp only [Plan.seq, Plan.fill, List.getD_cons_zero, List.getD_cons_succ, Nat.reduceLT, ↓reduceIte, Nat.reduceSub]
  apply mix_pure _ rfl
  · intro w' hw'
    have hcr := hw'.cells
    go_simp
    rfl
  intro K hK
  go_simp
  refine hK _ ?_
  clear hK K
  refine mix_act rfl (fun K hK => ?_)
  go_simp
  refine (word2_any _ _ _ _ _).mono ?_
  rintro e w' ⟨rfl, hb⟩
  simp only []
  refine hK _ _ (hcur.trans hb) (fun hcur => ?_)
  clear hK K hb
  refine mix_act rfl (fun K hK => ?_)
  go_simp
  refine (HF5.out _ (HVT.out.bel hcur)).mono ?_
  rintro e w5 ⟨rfl, hb⟩
  simp only []
  refine hK _ _ (hcur.trans hb) (fun hcur => ?_)
  clear hK K hb
  apply mix_pure _ rfl
  · intro w' hw'
    have hcr := hw'.cells
    go_simp
    rfl
  intro K hK
  go_simp
  refine hK _ ?_
  clear hK K
  apply mix_pure _ rfl
  · intro w' hw'
    have hcr := hw'.cells
    go_simp
    rfl
  intro K hK
  go_simp
  refine hK _ ?_
  clear hK K
  apply mix_pure _ rfl
  · intro w' hw'
    have hcr := hw'.cells
    go_simp
    rfl
  intro K hK
  go_simp
  refine hK _ ?_
  clear hK K
  apply mix_pure _ rfl
  · intro w' hw'
    have hcr := hw'.cells
    go_simp
    rfl
  intro K hK
  go_simp
  refine hK _ ?_
  clear hK K
  apply mix_pure _ rfl
  · intro w' hw'
    have hcr := hw'.cells
    go_simp
    rfl
  intro K hK
  go_simp
  refine hK _ ?_
  clear hK K
  refine mix_nil ?_
  have hk := hcur
  replace x0 := hk.cell x0
  replace x1 := hk.cell x1
  replace x2 := hk.cell x2
  replace x3 := hk.cell x3
  replace y0 := hk.cell y0
  replace y1 := hk.cell y1
  replace y2 := hk.cell y2
  replace y3 := hk.cell y3
  replace s0 := hk.cell s0
  replace s1 := hk.cell s1
  replace u0 := hk.cell u0
  replace u1 := hk.cell u1
  replace v0 := hk.cell v0
  replace v1 := hk.cell v1
  have lx0 := cell_lt x0
  have ly0 := cell_lt y0
  have ls0 := cell_lt s0
  have lu0 := cell_lt u0
  have lv0 := cell_lt v0
  have hB5 : Bel w w5 := hB4.trans hk
  replace HVT := Lib.hid (HVT.out.bel hk)
  replace HVQ := Lib.hid (HVQ.out.bel hk)
  clear hk hB4 hcur
  go_wp2_with fail
  refine (HF6.out _ (HVT.out.bel (by repeat (first | assumption | exact Bel.refl _ | refine Bel.drew ?_ | refine Bel.drewN ?_ _ | refine Bel.alloc ?_ _ | refine Bel.setCell ?_ (by simp <;> omega) _ | refine Bel.trans ?_ (by assumption))))).mono ?_
  rintro e w6 ⟨rfl, hb⟩
  have hk : Bel w5 w6 := Bel.trans (by repeat (first | assumption | exact Bel.refl _ | refine Bel.drew ?_ | refine Bel.drewN ?_ _ | refine Bel.alloc ?_ _ | refine Bel.setCell ?_ (by simp <;> omega) _ | refine Bel.trans ?_ (by assumption))) hb
  replace x0 := hk.cell x0
  replace x1 := hk.cell x1
  replace x2 := hk.cell x2
  replace x3 := hk.cell x3
  replace y0 := hk.cell y0
  replace y1 := hk.cell y1
  replace y2 := hk.cell y2
  replace y3 := hk.cell y3
  replace s0 := hk.cell s0
  replace s1 := hk.cell s1
  replace u0 := hk.cell u0
  replace u1 := hk.cell u1
  replace v0 := hk.cell v0
  replace v1 := hk.cell v1
  have lx0 := cell_lt x0
  have ly0 := cell_lt y0
  have ls0 := cell_lt s0
  have lu0 := cell_lt u0
  have lv0 := cell_lt v0
  have hB6 : Bel w w6 := hB5.trans hk
  replace HVT := Lib.hid (HVT.out.bel hk)
  replace HVQ := Lib.hid (HVQ.out.bel hk)
  clear hb hk hB5
  go_wp2_with fail
  refine (HF7.out _ (HVT.out.bel (by repeat (first | assumption | exact Bel.refl _ | refine Bel.drew ?_ | refine Bel.drewN ?_ _ | refine Bel.alloc ?_ _ | refine Bel.setCell ?_ (by simp <;> omega) _ | refine Bel.trans ?_ (by assumption))))).mono ?_
  rintro e w7 ⟨rfl, hb⟩
  have e0 : w7.cell? ⟨w6.heap.size, 0, none⟩ = some (.int .i64 1) := hb.cell ((row_facts (new_row (by simp))).1 0)
  have e1 : w7.cell? ⟨w6.heap.size, 1, none⟩ = some (.int .i64 2) := hb.cell ((row_facts (new_row (by simp))).1 1)
  have hk : Bel w6 w7 := Bel.trans (by repeat (first | assumption | exact Bel.refl _ | refine Bel.drew ?_ | refine Bel.drewN ?_ _ | refine Bel.alloc ?_ _ | refine Bel.setCell ?_ (by simp <;> omega) _ | refine Bel.trans ?_ (by assumption))) hb
  replace x0 := hk.cell x0
  replace x1 := hk.cell x1
  replace x2 := hk.cell x2
  replace x3 := hk.cell x3
  replace y0 := hk.cell y0
  replace y1 := hk.cell y1
  replace y2 := hk.cell y2
  replace y3 := hk.cell y3
  replace s0 := hk.cell s0
  replace s1 := hk.cell s1
  replace u0 := hk.cell u0
  replace u1 := hk.cell u1
  replace v0 := hk.cell v0
  replace v1 := hk.cell v1
  have lx0 := cell_lt x0
  have ly0 := cell_lt y0
  have ls0 := cell_lt s0
  have lu0 := cell_lt u0
  have lv0 := cell_lt v0
  have le0 := cell_lt e0
  have hB7 : Bel w w7 := hB6.trans hk
  replace HVT := Lib.hid (HVT.out.bel hk)
  replace HVQ := Lib.hid (HVQ.out.bel hk)
  clear hb hk hB6
  go_wp2_with fail
  refine (HF8.out _ (HVQ.out.bel (by repeat (first | assumption | exact Bel.refl _ | refine Bel.drew ?_ | refine Bel.drewN ?_ _ | refine Bel.alloc ?_ _ | refine Bel.setCell ?_ (by simp <;> omega) _ | refine Bel.trans ?_ (by assumption))))).mono ?_
  rintro e w8 ⟨rfl, hb⟩
  have hk : Bel w7 w8 := Bel.trans (by repeat (first | assumption | exact Bel.refl _ | refine Bel.drew ?_ | refine Bel.drewN ?_ _ | refine Bel.alloc ?_ _ | refine Bel.setCell ?_ (by simp <;> omega) _ | refine Bel.trans ?_ (by assumption))) hb
  replace x0 := hk.cell x0
  replace x1 := hk.cell x1
  replace x2 := hk.cell x2
  replace x3 := hk.cell x3
  replace y0 := hk.cell y0
  replace y1 := hk.cell y1
  replace y2 := hk.cell y2
  replace y3 := hk.cell y3
  replace s0 := hk.cell s0
  replace s1 := hk.cell s1
  replace u0 := hk.cell u0
  replace u1 := hk.cell u1
  replace v0 := hk.cell v0
  replace v1 := hk.cell v1
  replace e0 := hk.cell e0
  replace e1 := hk.cell e1
  have lx0 := cell_lt x0
  have ly0 := cell_lt y0
  have ls0 := cell_lt s0
  have lu0 := cell_lt u0
  have lv0 := cell_lt v0
  have le0 := cell_lt e0
  have hB8 : Bel w w8 := hB7.trans hk
  replace HVT := Lib.hid (HVT.out.bel hk)
  replace HVQ := Lib.hid (HVQ.out.bel hk)
  clear hb hk hB7
  have HB := Lib.hid hB8
  clear hB8 HF1 HF2 HF3 HF5 HF6 HF7 HF8 HVT HVQ x0 x1 x2 x3 y0 y1 y2 y3
  go_wp2
  go_ret
  exact ⟨rfl, HB.out⟩
end Go.Proofs.Ytoiajjdhgffdaaa
