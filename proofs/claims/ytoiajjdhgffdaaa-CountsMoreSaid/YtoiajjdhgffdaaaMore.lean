/-
  law: CountsMore: with one more word no span is wider, and what Judge knew is known still: the call returns true for every trap and words, and changes nothing that was there
-/
import Derived.Test.YtoiajjdhgffdaaaNarrower
import Derived.Test.YtoiajjdhgffdaaaRSpan
import Derived.Test.YtoiajjdhgffdaaaTime
namespace Go.Proofs.Ytoiajjdhgffdaaa
open Go Go.RowKit
set_option maxHeartbeats 8000000
set_option maxRecDepth 100000
/-- What Judge says of both traps. -/
theorem judge_more {lo hi lo2 hi2 low high : Int} (h1 : lo ≤ lo2) (h2 : lo2 ≤ hi2) (h3 : hi2 ≤ hi) (hk : judgeR lo hi low high ≠ 3) : judgeR lo2 hi2 low high = judgeR lo hi low high := by
  unfold judgeR at hk ⊢
  by_cases c1 : low ≤ lo ∧ hi ≤ high
  · rw [if_pos c1, if_pos (by omega)]
  · rw [if_neg c1] at hk ⊢
    by_cases c2 : high < lo ∨ hi < low
    · rw [if_pos c2, if_neg (by omega), if_pos (by omega)]
    · rw [if_neg c2] at hk; exact absurd rfl hk
theorem told_word {t : CT} {x : CW} (h : validB (told t x) = true) : isWordB t.C t.T x = true := by
  have := (fit_of_valid h).wb
  have k := allB_iff.1 this t.ws.length (by simp [told])
  rw [show (told t x).ws = t.ws ++ [x] from rfl, atW_last] at k
  exact k
theorem told_span {t : CT} {x : CW} (h : validB (told t x) = true) (hone : ∃ y, Sat (told t x) (-1) y) : judgeR (fishLo (told t x) x.time x.chamber) (fishHi (told t x) x.time x.chamber) x.low x.high = 1 := by
  have hf := fit_of_valid h
  have hex := exact_of_one hf hone
  obtain ⟨⟨b1, b2⟩, ⟨b3, b4⟩, _⟩ := isWordB_bounds hf.c1 hf.c2 hf.t1 hf.t2 (x := x) (told_word (t := t) h)
  have et : ((x.time.toNat : Nat) : Int) = x.time := by omega
  have ec : ((x.chamber.toNat : Nat) : Int) = x.chamber := by omega
  obtain ⟨_, y1, s1, e1⟩ := Fish_max hf hex x.time.toNat x.chamber.toNat (by omega) (by omega)
  obtain ⟨_, y2, s2, e2⟩ := Fish_mn hf hex x.time.toNat x.chamber.toNat (by omega) (by omega)
  rw [et, ec] at e1 e2
  have w1 := (sat_told.1 s1).2
  have w2 := (sat_told.1 s2).2
  unfold WordOk at w1 w2
  simp only [] at e1 e2
  unfold judgeR
  rw [if_pos (by omega)]
theorem word_place {C T : Int} {x : CW} (h : isWordB C T x = true) : isPlaceB C T x.time x.chamber = true := by
  unfold isWordB at h
  simp only [Bool.and_eq_true] at h
  exact h.1
theorem CountsMore_any (t : CT) (v : Value) (x z : CW) (w : World) (hv : TrapAt w v t) (hroom : Room t) : Calls Try.prog 4 #[v, x.val, z.val] w fun e w' => e = .returned (.bool true) ∧ Bel w w' := by
  have HV := Lib.hid hv
  have HTO := Lib.hid (fun wx hx => (Told_any t x v wx hx hroom).mono (R' := fun e w' => ∃ v', e = .returned v' ∧ Bel wx w' ∧ TrapAt w' v' (told t x)) fun e w' h => by
    obtain ⟨v', h1, h2, h3⟩ := h
    exact ⟨v', h1, h2, h3.now⟩)
  have HXV := Lib.hid (show x.val = .agg #[.int .i64 x.time, .int .i64 x.chamber, .int .i64 x.low, .int .i64 x.high] from rfl)
  have HZV := Lib.hid (show z.val = .agg #[.int .i64 z.time, .int .i64 z.chamber, .int .i64 z.low, .int .i64 z.high] from rfl)
  rw [HXV.out, HZV.out]
  rw [HXV.out] at HTO
  have HRT := Lib.hid (fun wx hx => ready_any t v wx hx)
  have HRO := Lib.hid (fun (vo : Value) wx hx => ready_any (told t x) vo wx hx)
  obtain ⟨ov, wv, rfl, ⟨a, c, b, off, rv, rfl, _⟩, ⟨wa, wc, wb, woff, rfl, _⟩⟩ := hv
  clear hroom
  by_cases hr : readyB t = true
  rotate_left
  · have hr : readyB t = false := by simpa using hr
    rw [hr] at HRT
    go_enter Try.func4, Try.ntmps4
    go_wp2_with fail
    refine (HTO.out _ (HV.out.bel (by repeat (first | assumption | exact Bel.refl _ | refine Bel.drew ?_ | refine Bel.drewN ?_ _ | refine Bel.alloc ?_ _ | refine Bel.setCell ?_ (by simp <;> omega) _ | refine Bel.trans ?_ (by assumption))))).mono ?_
    rintro e w1 ⟨vo, rfl, hb, hO⟩
    have HO := Lib.hid hO
    have x0 : w1.cell? ⟨w.heap.size, 0, none⟩ = some (.int .i64 t.C) := hb.cell ((row_facts ((heap_alloc_old _ _ (by simp <;> omega)).trans ((heap_alloc_old _ _ (by simp <;> omega)).trans (new_row rfl)))).1 0)
    have x1 : w1.cell? ⟨w.heap.size, 1, none⟩ = some (.int .i64 t.T) := hb.cell ((row_facts ((heap_alloc_old _ _ (by simp <;> omega)).trans ((heap_alloc_old _ _ (by simp <;> omega)).trans (new_row rfl)))).1 1)
    have x2 : w1.cell? ⟨w.heap.size, 2, none⟩ = some (.slice a t.op.length c) := hb.cell ((row_facts ((heap_alloc_old _ _ (by simp <;> omega)).trans ((heap_alloc_old _ _ (by simp <;> omega)).trans (new_row rfl)))).1 2)
    have x3 : w1.cell? ⟨w.heap.size, 3, none⟩ = some (.slice wa t.ws.length wc) := hb.cell ((row_facts ((heap_alloc_old _ _ (by simp <;> omega)).trans ((heap_alloc_old _ _ (by simp <;> omega)).trans (new_row rfl)))).1 3)
    have k0 : w1.cell? ⟨w.heap.size + 1, 0, none⟩ = some (.int .i64 x.time) := hb.cell ((row_facts ((heap_alloc_old _ _ (by simp <;> omega)).trans (new_row (by simp)))).1 0)
    have k1 : w1.cell? ⟨w.heap.size + 1, 1, none⟩ = some (.int .i64 x.chamber) := hb.cell ((row_facts ((heap_alloc_old _ _ (by simp <;> omega)).trans (new_row (by simp)))).1 1)
    have k2 : w1.cell? ⟨w.heap.size + 1, 2, none⟩ = some (.int .i64 x.low) := hb.cell ((row_facts ((heap_alloc_old _ _ (by simp <;> omega)).trans (new_row (by simp)))).1 2)
    have k3 : w1.cell? ⟨w.heap.size + 1, 3, none⟩ = some (.int .i64 x.high) := hb.cell ((row_facts ((heap_alloc_old _ _ (by simp <;> omega)).trans (new_row (by simp)))).1 3)
    have z0 : w1.cell? ⟨w.heap.size + 1 + 1, 0, none⟩ = some (.int .i64 z.time) := hb.cell ((row_facts (new_row (by simp))).1 0)
    have z1 : w1.cell? ⟨w.heap.size + 1 + 1, 1, none⟩ = some (.int .i64 z.chamber) := hb.cell ((row_facts (new_row (by simp))).1 1)
    have z2 : w1.cell? ⟨w.heap.size + 1 + 1, 2, none⟩ = some (.int .i64 z.low) := hb.cell ((row_facts (new_row (by simp))).1 2)
    have z3 : w1.cell? ⟨w.heap.size + 1 + 1, 3, none⟩ = some (.int .i64 z.high) := hb.cell ((row_facts (new_row (by simp))).1 3)
    have hB1 : Bel w w1 := Bel.trans (by repeat (first | assumption | exact Bel.refl _ | refine Bel.drew ?_ | refine Bel.drewN ?_ _ | refine Bel.alloc ?_ _ | refine Bel.setCell ?_ (by simp <;> omega) _ | refine Bel.trans ?_ (by assumption))) hb
    have lx0 := cell_lt x0
    have lk0 := cell_lt k0
    have lz0 := cell_lt z0
    replace HV := Lib.hid (HV.out.bel hB1)
    clear hb
    obtain ⟨ov2, wv2, rfl, ⟨a2, c2, b2, off2, rv2, rfl, _⟩, ⟨wa2, wc2, wb2, woff2, rfl, _⟩⟩ := hO
    generalize htt : told t x = o at *
    have HTT := Lib.hid htt
    clear htt
    go_wp2_with fail
    refine (HRT.out _ (HV.out.bel (by repeat (first | assumption | exact Bel.refl _ | refine Bel.drew ?_ | refine Bel.drewN ?_ _ | refine Bel.alloc ?_ _ | refine Bel.setCell ?_ (by simp <;> omega) _ | refine Bel.trans ?_ (by assumption))))).mono ?_
    rintro e w2 ⟨rfl, hb⟩
    have y0 : w2.cell? ⟨w1.heap.size, 0, none⟩ = some (.int .i64 o.C) := hb.cell ((row_facts (new_row (by first | rfl | (simp; done)))).1 0)
    have y1 : w2.cell? ⟨w1.heap.size, 1, none⟩ = some (.int .i64 o.T) := hb.cell ((row_facts (new_row (by first | rfl | (simp; done)))).1 1)
    have y2 : w2.cell? ⟨w1.heap.size, 2, none⟩ = some (.slice a2 o.op.length c2) := hb.cell ((row_facts (new_row (by first | rfl | (simp; done)))).1 2)
    have y3 : w2.cell? ⟨w1.heap.size, 3, none⟩ = some (.slice wa2 o.ws.length wc2) := hb.cell ((row_facts (new_row (by first | rfl | (simp; done)))).1 3)
    have hk : Bel w1 w2 := Bel.trans (by repeat (first | assumption | exact Bel.refl _ | refine Bel.drew ?_ | refine Bel.drewN ?_ _ | refine Bel.alloc ?_ _ | refine Bel.setCell ?_ (by simp <;> omega) _ | refine Bel.trans ?_ (by assumption))) hb
    replace x0 := hk.cell x0
    replace x1 := hk.cell x1
    replace x2 := hk.cell x2
    replace x3 := hk.cell x3
    replace k0 := hk.cell k0
    replace k1 := hk.cell k1
    replace k2 := hk.cell k2
    replace k3 := hk.cell k3
    replace z0 := hk.cell z0
    replace z1 := hk.cell z1
    replace z2 := hk.cell z2
    replace z3 := hk.cell z3
    have lx0 := cell_lt x0
    have lk0 := cell_lt k0
    have lz0 := cell_lt z0
    have ly0 := cell_lt y0
    have hB2 : Bel w w2 := hB1.trans hk
    replace HV := Lib.hid (HV.out.bel hk)
    replace HO := Lib.hid (HO.out.bel hk)
    clear hb hk hB1
    go_wp2_with fail
    refine (works_any _).mono ?_
    rintro e wz ⟨rfl, hb⟩
    have HBZ := Lib.hid (hB2.trans (Bel.trans (by repeat (first | assumption | exact Bel.refl _ | refine Bel.drew ?_ | refine Bel.drewN ?_ _ | refine Bel.alloc ?_ _ | refine Bel.setCell ?_ (by simp <;> omega) _ | refine Bel.trans ?_ (by assumption))) hb))
    clear hb hB2
    go_wp2
    go_ret
    exact ⟨rfl, HBZ.out⟩
  rw [hr] at HRT
  by_cases hr2 : readyB (told t x) = true
  rotate_left
  · have hr2 : readyB (told t x) = false := by simpa using hr2
    rw [hr2] at HRO
    clear hr hr2
    go_enter Try.func4, Try.ntmps4
    go_wp2_with fail
    refine (HTO.out _ (HV.out.bel (by repeat (first | assumption | exact Bel.refl _ | refine Bel.drew ?_ | refine Bel.drewN ?_ _ | refine Bel.alloc ?_ _ | refine Bel.setCell ?_ (by simp <;> omega) _ | refine Bel.trans ?_ (by assumption))))).mono ?_
    rintro e w1 ⟨vo, rfl, hb, hO⟩
    have HO := Lib.hid hO
    have x0 : w1.cell? ⟨w.heap.size, 0, none⟩ = some (.int .i64 t.C) := hb.cell ((row_facts ((heap_alloc_old _ _ (by simp <;> omega)).trans ((heap_alloc_old _ _ (by simp <;> omega)).trans (new_row rfl)))).1 0)
    have x1 : w1.cell? ⟨w.heap.size, 1, none⟩ = some (.int .i64 t.T) := hb.cell ((row_facts ((heap_alloc_old _ _ (by simp <;> omega)).trans ((heap_alloc_old _ _ (by simp <;> omega)).trans (new_row rfl)))).1 1)
    have x2 : w1.cell? ⟨w.heap.size, 2, none⟩ = some (.slice a t.op.length c) := hb.cell ((row_facts ((heap_alloc_old _ _ (by simp <;> omega)).trans ((heap_alloc_old _ _ (by simp <;> omega)).trans (new_row rfl)))).1 2)
    have x3 : w1.cell? ⟨w.heap.size, 3, none⟩ = some (.slice wa t.ws.length wc) := hb.cell ((row_facts ((heap_alloc_old _ _ (by simp <;> omega)).trans ((heap_alloc_old _ _ (by simp <;> omega)).trans (new_row rfl)))).1 3)
    have k0 : w1.cell? ⟨w.heap.size + 1, 0, none⟩ = some (.int .i64 x.time) := hb.cell ((row_facts ((heap_alloc_old _ _ (by simp <;> omega)).trans (new_row (by simp)))).1 0)
    have k1 : w1.cell? ⟨w.heap.size + 1, 1, none⟩ = some (.int .i64 x.chamber) := hb.cell ((row_facts ((heap_alloc_old _ _ (by simp <;> omega)).trans (new_row (by simp)))).1 1)
    have k2 : w1.cell? ⟨w.heap.size + 1, 2, none⟩ = some (.int .i64 x.low) := hb.cell ((row_facts ((heap_alloc_old _ _ (by simp <;> omega)).trans (new_row (by simp)))).1 2)
    have k3 : w1.cell? ⟨w.heap.size + 1, 3, none⟩ = some (.int .i64 x.high) := hb.cell ((row_facts ((heap_alloc_old _ _ (by simp <;> omega)).trans (new_row (by simp)))).1 3)
    have z0 : w1.cell? ⟨w.heap.size + 1 + 1, 0, none⟩ = some (.int .i64 z.time) := hb.cell ((row_facts (new_row (by simp))).1 0)
    have z1 : w1.cell? ⟨w.heap.size + 1 + 1, 1, none⟩ = some (.int .i64 z.chamber) := hb.cell ((row_facts (new_row (by simp))).1 1)
    have z2 : w1.cell? ⟨w.heap.size + 1 + 1, 2, none⟩ = some (.int .i64 z.low) := hb.cell ((row_facts (new_row (by simp))).1 2)
    have z3 : w1.cell? ⟨w.heap.size + 1 + 1, 3, none⟩ = some (.int .i64 z.high) := hb.cell ((row_facts (new_row (by simp))).1 3)
    have hB1 : Bel w w1 := Bel.trans (by repeat (first | assumption | exact Bel.refl _ | refine Bel.drew ?_ | refine Bel.drewN ?_ _ | refine Bel.alloc ?_ _ | refine Bel.setCell ?_ (by simp <;> omega) _ | refine Bel.trans ?_ (by assumption))) hb
    have lx0 := cell_lt x0
    have lk0 := cell_lt k0
    have lz0 := cell_lt z0
    replace HV := Lib.hid (HV.out.bel hB1)
    clear hb
    obtain ⟨ov2, wv2, rfl, ⟨a2, c2, b2, off2, rv2, rfl, _⟩, ⟨wa2, wc2, wb2, woff2, rfl, _⟩⟩ := hO
    generalize htt : told t x = o at *
    have HTT := Lib.hid htt
    clear htt
    go_wp2_with fail
    refine (HRT.out _ (HV.out.bel (by repeat (first | assumption | exact Bel.refl _ | refine Bel.drew ?_ | refine Bel.drewN ?_ _ | refine Bel.alloc ?_ _ | refine Bel.setCell ?_ (by simp <;> omega) _ | refine Bel.trans ?_ (by assumption))))).mono ?_
    rintro e w2 ⟨rfl, hb⟩
    have y0 : w2.cell? ⟨w1.heap.size, 0, none⟩ = some (.int .i64 o.C) := hb.cell ((row_facts (new_row (by first | rfl | (simp; done)))).1 0)
    have y1 : w2.cell? ⟨w1.heap.size, 1, none⟩ = some (.int .i64 o.T) := hb.cell ((row_facts (new_row (by first | rfl | (simp; done)))).1 1)
    have y2 : w2.cell? ⟨w1.heap.size, 2, none⟩ = some (.slice a2 o.op.length c2) := hb.cell ((row_facts (new_row (by first | rfl | (simp; done)))).1 2)
    have y3 : w2.cell? ⟨w1.heap.size, 3, none⟩ = some (.slice wa2 o.ws.length wc2) := hb.cell ((row_facts (new_row (by first | rfl | (simp; done)))).1 3)
    have hk : Bel w1 w2 := Bel.trans (by repeat (first | assumption | exact Bel.refl _ | refine Bel.drew ?_ | refine Bel.drewN ?_ _ | refine Bel.alloc ?_ _ | refine Bel.setCell ?_ (by simp <;> omega) _ | refine Bel.trans ?_ (by assumption))) hb
    replace x0 := hk.cell x0
    replace x1 := hk.cell x1
    replace x2 := hk.cell x2
    replace x3 := hk.cell x3
    replace k0 := hk.cell k0
    replace k1 := hk.cell k1
    replace k2 := hk.cell k2
    replace k3 := hk.cell k3
    replace z0 := hk.cell z0
    replace z1 := hk.cell z1
    replace z2 := hk.cell z2
    replace z3 := hk.cell z3
    have lx0 := cell_lt x0
    have lk0 := cell_lt k0
    have lz0 := cell_lt z0
    have ly0 := cell_lt y0
    have hB2 : Bel w w2 := hB1.trans hk
    replace HV := Lib.hid (HV.out.bel hk)
    replace HO := Lib.hid (HO.out.bel hk)
    clear hb hk hB1
    go_wp2_with fail
    refine (HRO.out (.agg #[.int .i64 o.C, .int .i64 o.T, .slice a2 o.op.length c2, .slice wa2 o.ws.length wc2]) _ (HO.out.bel (by repeat (first | assumption | exact Bel.refl _ | refine Bel.drew ?_ | refine Bel.drewN ?_ _ | refine Bel.alloc ?_ _ | refine Bel.setCell ?_ (by simp <;> omega) _ | refine Bel.trans ?_ (by assumption))))).mono ?_
    rintro e w3 ⟨rfl, hb⟩
    have hk : Bel w2 w3 := Bel.trans (by repeat (first | assumption | exact Bel.refl _ | refine Bel.drew ?_ | refine Bel.drewN ?_ _ | refine Bel.alloc ?_ _ | refine Bel.setCell ?_ (by simp <;> omega) _ | refine Bel.trans ?_ (by assumption))) hb
    replace x0 := hk.cell x0
    replace x1 := hk.cell x1
    replace x2 := hk.cell x2
    replace x3 := hk.cell x3
    replace k0 := hk.cell k0
    replace k1 := hk.cell k1
    replace k2 := hk.cell k2
    replace k3 := hk.cell k3
    replace z0 := hk.cell z0
    replace z1 := hk.cell z1
    replace z2 := hk.cell z2
    replace z3 := hk.cell z3
    replace y0 := hk.cell y0
    replace y1 := hk.cell y1
    replace y2 := hk.cell y2
    replace y3 := hk.cell y3
    have lx0 := cell_lt x0
    have lk0 := cell_lt k0
    have lz0 := cell_lt z0
    have ly0 := cell_lt y0
    have hB3 : Bel w w3 := hB2.trans hk
    replace HV := Lib.hid (HV.out.bel hk)
    replace HO := Lib.hid (HO.out.bel hk)
    clear hb hk hB2
    go_wp2_with fail
    refine (works_any _).mono ?_
    rintro e wz ⟨rfl, hb⟩
    have HBZ := Lib.hid (hB3.trans (Bel.trans (by repeat (first | assumption | exact Bel.refl _ | refine Bel.drew ?_ | refine Bel.drewN ?_ _ | refine Bel.alloc ?_ _ | refine Bel.setCell ?_ (by simp <;> omega) _ | refine Bel.trans ?_ (by assumption))) hb))
    clear hb hB3
    go_wp2
    go_ret
    exact ⟨rfl, HBZ.out⟩
  rw [hr2] at HRO
  have hvt := (readyB_iff.1 hr).2
  have hvo := (readyB_iff.1 hr2).2
  have HIO := Lib.hid (fun (vo : Value) wx hx => IsOne_any (told t x) vo wx hx (fit_of_valid hvo) (valid_nine hvo))
  clear hr hr2
  by_cases h1 : oneB (told t x) = true
  rotate_left
  · have h1 : oneB (told t x) = false := by simpa using h1
    rw [h1] at HIO
    clear h1 hvt hvo
    go_enter Try.func4, Try.ntmps4
    go_wp2_with fail
    refine (HTO.out _ (HV.out.bel (by repeat (first | assumption | exact Bel.refl _ | refine Bel.drew ?_ | refine Bel.drewN ?_ _ | refine Bel.alloc ?_ _ | refine Bel.setCell ?_ (by simp <;> omega) _ | refine Bel.trans ?_ (by assumption))))).mono ?_
    rintro e w1 ⟨vo, rfl, hb, hO⟩
    have HO := Lib.hid hO
    have x0 : w1.cell? ⟨w.heap.size, 0, none⟩ = some (.int .i64 t.C) := hb.cell ((row_facts ((heap_alloc_old _ _ (by simp <;> omega)).trans ((heap_alloc_old _ _ (by simp <;> omega)).trans (new_row rfl)))).1 0)
    have x1 : w1.cell? ⟨w.heap.size, 1, none⟩ = some (.int .i64 t.T) := hb.cell ((row_facts ((heap_alloc_old _ _ (by simp <;> omega)).trans ((heap_alloc_old _ _ (by simp <;> omega)).trans (new_row rfl)))).1 1)
    have x2 : w1.cell? ⟨w.heap.size, 2, none⟩ = some (.slice a t.op.length c) := hb.cell ((row_facts ((heap_alloc_old _ _ (by simp <;> omega)).trans ((heap_alloc_old _ _ (by simp <;> omega)).trans (new_row rfl)))).1 2)
    have x3 : w1.cell? ⟨w.heap.size, 3, none⟩ = some (.slice wa t.ws.length wc) := hb.cell ((row_facts ((heap_alloc_old _ _ (by simp <;> omega)).trans ((heap_alloc_old _ _ (by simp <;> omega)).trans (new_row rfl)))).1 3)
    have k0 : w1.cell? ⟨w.heap.size + 1, 0, none⟩ = some (.int .i64 x.time) := hb.cell ((row_facts ((heap_alloc_old _ _ (by simp <;> omega)).trans (new_row (by simp)))).1 0)
    have k1 : w1.cell? ⟨w.heap.size + 1, 1, none⟩ = some (.int .i64 x.chamber) := hb.cell ((row_facts ((heap_alloc_old _ _ (by simp <;> omega)).trans (new_row (by simp)))).1 1)
    have k2 : w1.cell? ⟨w.heap.size + 1, 2, none⟩ = some (.int .i64 x.low) := hb.cell ((row_facts ((heap_alloc_old _ _ (by simp <;> omega)).trans (new_row (by simp)))).1 2)
    have k3 : w1.cell? ⟨w.heap.size + 1, 3, none⟩ = some (.int .i64 x.high) := hb.cell ((row_facts ((heap_alloc_old _ _ (by simp <;> omega)).trans (new_row (by simp)))).1 3)
    have z0 : w1.cell? ⟨w.heap.size + 1 + 1, 0, none⟩ = some (.int .i64 z.time) := hb.cell ((row_facts (new_row (by simp))).1 0)
    have z1 : w1.cell? ⟨w.heap.size + 1 + 1, 1, none⟩ = some (.int .i64 z.chamber) := hb.cell ((row_facts (new_row (by simp))).1 1)
    have z2 : w1.cell? ⟨w.heap.size + 1 + 1, 2, none⟩ = some (.int .i64 z.low) := hb.cell ((row_facts (new_row (by simp))).1 2)
    have z3 : w1.cell? ⟨w.heap.size + 1 + 1, 3, none⟩ = some (.int .i64 z.high) := hb.cell ((row_facts (new_row (by simp))).1 3)
    have hB1 : Bel w w1 := Bel.trans (by repeat (first | assumption | exact Bel.refl _ | refine Bel.drew ?_ | refine Bel.drewN ?_ _ | refine Bel.alloc ?_ _ | refine Bel.setCell ?_ (by simp <;> omega) _ | refine Bel.trans ?_ (by assumption))) hb
    have lx0 := cell_lt x0
    have lk0 := cell_lt k0
    have lz0 := cell_lt z0
    replace HV := Lib.hid (HV.out.bel hB1)
    clear hb
    obtain ⟨ov2, wv2, rfl, ⟨a2, c2, b2, off2, rv2, rfl, _⟩, ⟨wa2, wc2, wb2, woff2, rfl, _⟩⟩ := hO
    generalize htt : told t x = o at *
    have HTT := Lib.hid htt
    clear htt
    go_wp2_with fail
    refine (HRT.out _ (HV.out.bel (by repeat (first | assumption | exact Bel.refl _ | refine Bel.drew ?_ | refine Bel.drewN ?_ _ | refine Bel.alloc ?_ _ | refine Bel.setCell ?_ (by simp <;> omega) _ | refine Bel.trans ?_ (by assumption))))).mono ?_
    rintro e w2 ⟨rfl, hb⟩
    have y0 : w2.cell? ⟨w1.heap.size, 0, none⟩ = some (.int .i64 o.C) := hb.cell ((row_facts (new_row (by first | rfl | (simp; done)))).1 0)
    have y1 : w2.cell? ⟨w1.heap.size, 1, none⟩ = some (.int .i64 o.T) := hb.cell ((row_facts (new_row (by first | rfl | (simp; done)))).1 1)
    have y2 : w2.cell? ⟨w1.heap.size, 2, none⟩ = some (.slice a2 o.op.length c2) := hb.cell ((row_facts (new_row (by first | rfl | (simp; done)))).1 2)
    have y3 : w2.cell? ⟨w1.heap.size, 3, none⟩ = some (.slice wa2 o.ws.length wc2) := hb.cell ((row_facts (new_row (by first | rfl | (simp; done)))).1 3)
    have hk : Bel w1 w2 := Bel.trans (by repeat (first | assumption | exact Bel.refl _ | refine Bel.drew ?_ | refine Bel.drewN ?_ _ | refine Bel.alloc ?_ _ | refine Bel.setCell ?_ (by simp <;> omega) _ | refine Bel.trans ?_ (by assumption))) hb
    replace x0 := hk.cell x0
    replace x1 := hk.cell x1
    replace x2 := hk.cell x2
    replace x3 := hk.cell x3
    replace k0 := hk.cell k0
    replace k1 := hk.cell k1
    replace k2 := hk.cell k2
    replace k3 := hk.cell k3
    replace z0 := hk.cell z0
    replace z1 := hk.cell z1
    replace z2 := hk.cell z2
    replace z3 := hk.cell z3
    have lx0 := cell_lt x0
    have lk0 := cell_lt k0
    have lz0 := cell_lt z0
    have ly0 := cell_lt y0
    have hB2 : Bel w w2 := hB1.trans hk
    replace HV := Lib.hid (HV.out.bel hk)
    replace HO := Lib.hid (HO.out.bel hk)
    clear hb hk hB1
    go_wp2_with fail
    refine (HRO.out (.agg #[.int .i64 o.C, .int .i64 o.T, .slice a2 o.op.length c2, .slice wa2 o.ws.length wc2]) _ (HO.out.bel (by repeat (first | assumption | exact Bel.refl _ | refine Bel.drew ?_ | refine Bel.drewN ?_ _ | refine Bel.alloc ?_ _ | refine Bel.setCell ?_ (by simp <;> omega) _ | refine Bel.trans ?_ (by assumption))))).mono ?_
    rintro e w3 ⟨rfl, hb⟩
    have hk : Bel w2 w3 := Bel.trans (by repeat (first | assumption | exact Bel.refl _ | refine Bel.drew ?_ | refine Bel.drewN ?_ _ | refine Bel.alloc ?_ _ | refine Bel.setCell ?_ (by simp <;> omega) _ | refine Bel.trans ?_ (by assumption))) hb
    replace x0 := hk.cell x0
    replace x1 := hk.cell x1
    replace x2 := hk.cell x2
    replace x3 := hk.cell x3
    replace k0 := hk.cell k0
    replace k1 := hk.cell k1
    replace k2 := hk.cell k2
    replace k3 := hk.cell k3
    replace z0 := hk.cell z0
    replace z1 := hk.cell z1
    replace z2 := hk.cell z2
    replace z3 := hk.cell z3
    replace y0 := hk.cell y0
    replace y1 := hk.cell y1
    replace y2 := hk.cell y2
    replace y3 := hk.cell y3
    have lx0 := cell_lt x0
    have lk0 := cell_lt k0
    have lz0 := cell_lt z0
    have ly0 := cell_lt y0
    have hB3 : Bel w w3 := hB2.trans hk
    replace HV := Lib.hid (HV.out.bel hk)
    replace HO := Lib.hid (HO.out.bel hk)
    clear hb hk hB2
    go_wp2_with fail
    refine (HIO.out (.agg #[.int .i64 o.C, .int .i64 o.T, .slice a2 o.op.length c2, .slice wa2 o.ws.length wc2]) _ (HO.out.bel (by repeat (first | assumption | exact Bel.refl _ | refine Bel.drew ?_ | refine Bel.drewN ?_ _ | refine Bel.alloc ?_ _ | refine Bel.setCell ?_ (by simp <;> omega) _ | refine Bel.trans ?_ (by assumption))))).mono ?_
    rintro e w4 ⟨rfl, hb⟩
    have hk : Bel w3 w4 := Bel.trans (by repeat (first | assumption | exact Bel.refl _ | refine Bel.drew ?_ | refine Bel.drewN ?_ _ | refine Bel.alloc ?_ _ | refine Bel.setCell ?_ (by simp <;> omega) _ | refine Bel.trans ?_ (by assumption))) hb
    replace x0 := hk.cell x0
    replace x1 := hk.cell x1
    replace x2 := hk.cell x2
    replace x3 := hk.cell x3
    replace k0 := hk.cell k0
    replace k1 := hk.cell k1
    replace k2 := hk.cell k2
    replace k3 := hk.cell k3
    replace z0 := hk.cell z0
    replace z1 := hk.cell z1
    replace z2 := hk.cell z2
    replace z3 := hk.cell z3
    replace y0 := hk.cell y0
    replace y1 := hk.cell y1
    replace y2 := hk.cell y2
    replace y3 := hk.cell y3
    have lx0 := cell_lt x0
    have lk0 := cell_lt k0
    have lz0 := cell_lt z0
    have ly0 := cell_lt y0
    have hB4 : Bel w w4 := hB3.trans hk
    replace HV := Lib.hid (HV.out.bel hk)
    replace HO := Lib.hid (HO.out.bel hk)
    clear hb hk hB3
    go_wp2_with fail
    refine (works_any _).mono ?_
    rintro e wz ⟨rfl, hb⟩
    have HBZ := Lib.hid (hB4.trans (Bel.trans (by repeat (first | assumption | exact Bel.refl _ | refine Bel.drew ?_ | refine Bel.drewN ?_ _ | refine Bel.alloc ?_ _ | refine Bel.setCell ?_ (by simp <;> omega) _ | refine Bel.trans ?_ (by assumption))) hb))
    clear hb hB4
    go_wp2
    go_ret
    exact ⟨rfl, HBZ.out⟩
  rw [h1] at HIO
  have hone := oneB_iff.1 h1
  have hsub : ∀ y, Sat (told t x) (-1) y → Sat t (-1) y := fun y hy => (sat_told.1 hy).1
  have honet : ∃ y, Sat t (-1) y := by obtain ⟨y, hy⟩ := hone; exact ⟨y, hsub y hy⟩
  have HNA := Lib.hid (fun (vo : Value) wx hx ho => narrower_any (told t x) t vo (.agg #[.int .i64 t.C, .int .i64 t.T, .slice a t.op.length c, .slice wa t.ws.length wc]) wx ho hx hvo hvt rfl rfl hone hsub)
  have HNW := Lib.hid (narrow_of (fit_of_valid hvo) (fit_of_valid hvt) rfl rfl hone hsub)
  by_cases hz : isWordB t.C t.T z = true
  rotate_left
  · have hz : isWordB t.C t.T z = false := by simpa using hz
    have HIW := Lib.hid (fun wx => (IsWord_any t.C t.T z (.slice a t.op.length c) (.slice wa t.ws.length wc) wx).mono (R' := fun e w' => e = .returned (.bool false) ∧ Bel wx w') fun e w' h => ⟨by rw [h.1, hz], h.2⟩)
    rw [HZV.out] at HIW
    clear hz h1 hvt hvo hone hsub honet
    go_enter Try.func4, Try.ntmps4
    go_wp2_with fail
    refine (HTO.out _ (HV.out.bel (by repeat (first | assumption | exact Bel.refl _ | refine Bel.drew ?_ | refine Bel.drewN ?_ _ | refine Bel.alloc ?_ _ | refine Bel.setCell ?_ (by simp <;> omega) _ | refine Bel.trans ?_ (by assumption))))).mono ?_
    rintro e w1 ⟨vo, rfl, hb, hO⟩
    have HO := Lib.hid hO
    have x0 : w1.cell? ⟨w.heap.size, 0, none⟩ = some (.int .i64 t.C) := hb.cell ((row_facts ((heap_alloc_old _ _ (by simp <;> omega)).trans ((heap_alloc_old _ _ (by simp <;> omega)).trans (new_row rfl)))).1 0)
    have x1 : w1.cell? ⟨w.heap.size, 1, none⟩ = some (.int .i64 t.T) := hb.cell ((row_facts ((heap_alloc_old _ _ (by simp <;> omega)).trans ((heap_alloc_old _ _ (by simp <;> omega)).trans (new_row rfl)))).1 1)
    have x2 : w1.cell? ⟨w.heap.size, 2, none⟩ = some (.slice a t.op.length c) := hb.cell ((row_facts ((heap_alloc_old _ _ (by simp <;> omega)).trans ((heap_alloc_old _ _ (by simp <;> omega)).trans (new_row rfl)))).1 2)
    have x3 : w1.cell? ⟨w.heap.size, 3, none⟩ = some (.slice wa t.ws.length wc) := hb.cell ((row_facts ((heap_alloc_old _ _ (by simp <;> omega)).trans ((heap_alloc_old _ _ (by simp <;> omega)).trans (new_row rfl)))).1 3)
    have k0 : w1.cell? ⟨w.heap.size + 1, 0, none⟩ = some (.int .i64 x.time) := hb.cell ((row_facts ((heap_alloc_old _ _ (by simp <;> omega)).trans (new_row (by simp)))).1 0)
    have k1 : w1.cell? ⟨w.heap.size + 1, 1, none⟩ = some (.int .i64 x.chamber) := hb.cell ((row_facts ((heap_alloc_old _ _ (by simp <;> omega)).trans (new_row (by simp)))).1 1)
    have k2 : w1.cell? ⟨w.heap.size + 1, 2, none⟩ = some (.int .i64 x.low) := hb.cell ((row_facts ((heap_alloc_old _ _ (by simp <;> omega)).trans (new_row (by simp)))).1 2)
    have k3 : w1.cell? ⟨w.heap.size + 1, 3, none⟩ = some (.int .i64 x.high) := hb.cell ((row_facts ((heap_alloc_old _ _ (by simp <;> omega)).trans (new_row (by simp)))).1 3)
    have z0 : w1.cell? ⟨w.heap.size + 1 + 1, 0, none⟩ = some (.int .i64 z.time) := hb.cell ((row_facts (new_row (by simp))).1 0)
    have z1 : w1.cell? ⟨w.heap.size + 1 + 1, 1, none⟩ = some (.int .i64 z.chamber) := hb.cell ((row_facts (new_row (by simp))).1 1)
    have z2 : w1.cell? ⟨w.heap.size + 1 + 1, 2, none⟩ = some (.int .i64 z.low) := hb.cell ((row_facts (new_row (by simp))).1 2)
    have z3 : w1.cell? ⟨w.heap.size + 1 + 1, 3, none⟩ = some (.int .i64 z.high) := hb.cell ((row_facts (new_row (by simp))).1 3)
    have hB1 : Bel w w1 := Bel.trans (by repeat (first | assumption | exact Bel.refl _ | refine Bel.drew ?_ | refine Bel.drewN ?_ _ | refine Bel.alloc ?_ _ | refine Bel.setCell ?_ (by simp <;> omega) _ | refine Bel.trans ?_ (by assumption))) hb
    have lx0 := cell_lt x0
    have lk0 := cell_lt k0
    have lz0 := cell_lt z0
    replace HV := Lib.hid (HV.out.bel hB1)
    clear hb
    obtain ⟨ov2, wv2, rfl, ⟨a2, c2, b2, off2, rv2, rfl, _⟩, ⟨wa2, wc2, wb2, woff2, rfl, _⟩⟩ := hO
    generalize htt : told t x = o at *
    have HTT := Lib.hid htt
    clear htt
    go_wp2_with fail
    refine (HRT.out _ (HV.out.bel (by repeat (first | assumption | exact Bel.refl _ | refine Bel.drew ?_ | refine Bel.drewN ?_ _ | refine Bel.alloc ?_ _ | refine Bel.setCell ?_ (by simp <;> omega) _ | refine Bel.trans ?_ (by assumption))))).mono ?_
    rintro e w2 ⟨rfl, hb⟩
    have y0 : w2.cell? ⟨w1.heap.size, 0, none⟩ = some (.int .i64 o.C) := hb.cell ((row_facts (new_row (by first | rfl | (simp; done)))).1 0)
    have y1 : w2.cell? ⟨w1.heap.size, 1, none⟩ = some (.int .i64 o.T) := hb.cell ((row_facts (new_row (by first | rfl | (simp; done)))).1 1)
    have y2 : w2.cell? ⟨w1.heap.size, 2, none⟩ = some (.slice a2 o.op.length c2) := hb.cell ((row_facts (new_row (by first | rfl | (simp; done)))).1 2)
    have y3 : w2.cell? ⟨w1.heap.size, 3, none⟩ = some (.slice wa2 o.ws.length wc2) := hb.cell ((row_facts (new_row (by first | rfl | (simp; done)))).1 3)
    have hk : Bel w1 w2 := Bel.trans (by repeat (first | assumption | exact Bel.refl _ | refine Bel.drew ?_ | refine Bel.drewN ?_ _ | refine Bel.alloc ?_ _ | refine Bel.setCell ?_ (by simp <;> omega) _ | refine Bel.trans ?_ (by assumption))) hb
    replace x0 := hk.cell x0
    replace x1 := hk.cell x1
    replace x2 := hk.cell x2
    replace x3 := hk.cell x3
    replace k0 := hk.cell k0
    replace k1 := hk.cell k1
    replace k2 := hk.cell k2
    replace k3 := hk.cell k3
    replace z0 := hk.cell z0
    replace z1 := hk.cell z1
    replace z2 := hk.cell z2
    replace z3 := hk.cell z3
    have lx0 := cell_lt x0
    have lk0 := cell_lt k0
    have lz0 := cell_lt z0
    have ly0 := cell_lt y0
    have hB2 : Bel w w2 := hB1.trans hk
    replace HV := Lib.hid (HV.out.bel hk)
    replace HO := Lib.hid (HO.out.bel hk)
    clear hb hk hB1
    go_wp2_with fail
    refine (HRO.out (.agg #[.int .i64 o.C, .int .i64 o.T, .slice a2 o.op.length c2, .slice wa2 o.ws.length wc2]) _ (HO.out.bel (by repeat (first | assumption | exact Bel.refl _ | refine Bel.drew ?_ | refine Bel.drewN ?_ _ | refine Bel.alloc ?_ _ | refine Bel.setCell ?_ (by simp <;> omega) _ | refine Bel.trans ?_ (by assumption))))).mono ?_
    rintro e w3 ⟨rfl, hb⟩
    have hk : Bel w2 w3 := Bel.trans (by repeat (first | assumption | exact Bel.refl _ | refine Bel.drew ?_ | refine Bel.drewN ?_ _ | refine Bel.alloc ?_ _ | refine Bel.setCell ?_ (by simp <;> omega) _ | refine Bel.trans ?_ (by assumption))) hb
    replace x0 := hk.cell x0
    replace x1 := hk.cell x1
    replace x2 := hk.cell x2
    replace x3 := hk.cell x3
    replace k0 := hk.cell k0
    replace k1 := hk.cell k1
    replace k2 := hk.cell k2
    replace k3 := hk.cell k3
    replace z0 := hk.cell z0
    replace z1 := hk.cell z1
    replace z2 := hk.cell z2
    replace z3 := hk.cell z3
    replace y0 := hk.cell y0
    replace y1 := hk.cell y1
    replace y2 := hk.cell y2
    replace y3 := hk.cell y3
    have lx0 := cell_lt x0
    have lk0 := cell_lt k0
    have lz0 := cell_lt z0
    have ly0 := cell_lt y0
    have hB3 : Bel w w3 := hB2.trans hk
    replace HV := Lib.hid (HV.out.bel hk)
    replace HO := Lib.hid (HO.out.bel hk)
    clear hb hk hB2
    go_wp2_with fail
    refine (HIO.out (.agg #[.int .i64 o.C, .int .i64 o.T, .slice a2 o.op.length c2, .slice wa2 o.ws.length wc2]) _ (HO.out.bel (by repeat (first | assumption | exact Bel.refl _ | refine Bel.drew ?_ | refine Bel.drewN ?_ _ | refine Bel.alloc ?_ _ | refine Bel.setCell ?_ (by simp <;> omega) _ | refine Bel.trans ?_ (by assumption))))).mono ?_
    rintro e w4 ⟨rfl, hb⟩
    have hk : Bel w3 w4 := Bel.trans (by repeat (first | assumption | exact Bel.refl _ | refine Bel.drew ?_ | refine Bel.drewN ?_ _ | refine Bel.alloc ?_ _ | refine Bel.setCell ?_ (by simp <;> omega) _ | refine Bel.trans ?_ (by assumption))) hb
    replace x0 := hk.cell x0
    replace x1 := hk.cell x1
    replace x2 := hk.cell x2
    replace x3 := hk.cell x3
    replace k0 := hk.cell k0
    replace k1 := hk.cell k1
    replace k2 := hk.cell k2
    replace k3 := hk.cell k3
    replace z0 := hk.cell z0
    replace z1 := hk.cell z1
    replace z2 := hk.cell z2
    replace z3 := hk.cell z3
    replace y0 := hk.cell y0
    replace y1 := hk.cell y1
    replace y2 := hk.cell y2
    replace y3 := hk.cell y3
    have lx0 := cell_lt x0
    have lk0 := cell_lt k0
    have lz0 := cell_lt z0
    have ly0 := cell_lt y0
    have hB4 : Bel w w4 := hB3.trans hk
    replace HV := Lib.hid (HV.out.bel hk)
    replace HO := Lib.hid (HO.out.bel hk)
    clear hb hk hB3
    go_wp2_with fail
    refine (HNA.out (.agg #[.int .i64 o.C, .int .i64 o.T, .slice a2 o.op.length c2, .slice wa2 o.ws.length wc2]) _ (HV.out.bel (by repeat (first | assumption | exact Bel.refl _ | refine Bel.drew ?_ | refine Bel.drewN ?_ _ | refine Bel.alloc ?_ _ | refine Bel.setCell ?_ (by simp <;> omega) _ | refine Bel.trans ?_ (by assumption)))) (HO.out.bel (by repeat (first | assumption | exact Bel.refl _ | refine Bel.drew ?_ | refine Bel.drewN ?_ _ | refine Bel.alloc ?_ _ | refine Bel.setCell ?_ (by simp <;> omega) _ | refine Bel.trans ?_ (by assumption))))).mono ?_
    rintro e w5 ⟨rfl, hb⟩
    have hk : Bel w4 w5 := Bel.trans (by repeat (first | assumption | exact Bel.refl _ | refine Bel.drew ?_ | refine Bel.drewN ?_ _ | refine Bel.alloc ?_ _ | refine Bel.setCell ?_ (by simp <;> omega) _ | refine Bel.trans ?_ (by assumption))) hb
    replace x0 := hk.cell x0
    replace x1 := hk.cell x1
    replace x2 := hk.cell x2
    replace x3 := hk.cell x3
    replace k0 := hk.cell k0
    replace k1 := hk.cell k1
    replace k2 := hk.cell k2
    replace k3 := hk.cell k3
    replace z0 := hk.cell z0
    replace z1 := hk.cell z1
    replace z2 := hk.cell z2
    replace z3 := hk.cell z3
    replace y0 := hk.cell y0
    replace y1 := hk.cell y1
    replace y2 := hk.cell y2
    replace y3 := hk.cell y3
    have lx0 := cell_lt x0
    have lk0 := cell_lt k0
    have lz0 := cell_lt z0
    have ly0 := cell_lt y0
    have hB5 : Bel w w5 := hB4.trans hk
    replace HV := Lib.hid (HV.out.bel hk)
    replace HO := Lib.hid (HO.out.bel hk)
    clear hb hk hB4
    go_wp2_with fail
    refine (HIW.out _).mono ?_
    rintro e w6 ⟨rfl, hb⟩
    have hk : Bel w5 w6 := Bel.trans (by repeat (first | assumption | exact Bel.refl _ | refine Bel.drew ?_ | refine Bel.drewN ?_ _ | refine Bel.alloc ?_ _ | refine Bel.setCell ?_ (by simp <;> omega) _ | refine Bel.trans ?_ (by assumption))) hb
    replace x0 := hk.cell x0
    replace x1 := hk.cell x1
    replace x2 := hk.cell x2
    replace x3 := hk.cell x3
    replace k0 := hk.cell k0
    replace k1 := hk.cell k1
    replace k2 := hk.cell k2
    replace k3 := hk.cell k3
    replace z0 := hk.cell z0
    replace z1 := hk.cell z1
    replace z2 := hk.cell z2
    replace z3 := hk.cell z3
    replace y0 := hk.cell y0
    replace y1 := hk.cell y1
    replace y2 := hk.cell y2
    replace y3 := hk.cell y3
    have lx0 := cell_lt x0
    have lk0 := cell_lt k0
    have lz0 := cell_lt z0
    have ly0 := cell_lt y0
    have hB6 : Bel w w6 := hB5.trans hk
    replace HV := Lib.hid (HV.out.bel hk)
    replace HO := Lib.hid (HO.out.bel hk)
    clear hb hk hB5
    go_wp2_with fail
    refine (works_any _).mono ?_
    rintro e wz ⟨rfl, hb⟩
    have HBZ := Lib.hid (hB6.trans (Bel.trans (by repeat (first | assumption | exact Bel.refl _ | refine Bel.drew ?_ | refine Bel.drewN ?_ _ | refine Bel.alloc ?_ _ | refine Bel.setCell ?_ (by simp <;> omega) _ | refine Bel.trans ?_ (by assumption))) hb))
    clear hb hB6
    go_wp2
    go_ret
    exact ⟨rfl, HBZ.out⟩
  have HIW := Lib.hid (fun wx => (IsWord_any t.C t.T z (.slice a t.op.length c) (.slice wa t.ws.length wc) wx).mono (R' := fun e w' => e = .returned (.bool true) ∧ Bel wx w') fun e w' h => ⟨by rw [h.1, hz], h.2⟩)
  rw [HZV.out] at HIW
  obtain ⟨g1, g2, g3⟩ := (show fishLo t z.time z.chamber ≤ fishLo (told t x) z.time z.chamber ∧ fishLo (told t x) z.time z.chamber ≤ fishHi (told t x) z.time z.chamber ∧ fishHi (told t x) z.time z.chamber ≤ fishHi t z.time z.chamber from by
    obtain ⟨i, k, e1, e2, h1, h2⟩ := isPlaceB_nat (fit_of_valid hvt) (word_place hz)
    rw [e1, e2]
    exact HNW.out.fish i k h1 h2)
  have HJ1 := Lib.hid (fun wx hx => (Judge_any t (.agg #[.int .i64 t.C, .int .i64 t.T, .slice a t.op.length c, .slice wa t.ws.length wc]) z wx hx).mono fun e w' h => int_ok (a := judgeR (fishLo t z.time z.chamber) (fishHi t z.time z.chamber) z.low z.high) (by rw [hz]; exact errR_ok (askR_zero.2 ⟨hvt, rfl⟩) honet) rfl h)
  have HJ2 := Lib.hid (fun (vo : Value) wx hx => (Judge_any (told t x) vo z wx hx).mono fun e w' h => int_ok (a := judgeR (fishLo (told t x) z.time z.chamber) (fishHi (told t x) z.time z.chamber) z.low z.high) (by rw [show isWordB (told t x).C (told t x).T z = true from hz]; exact errR_ok (askR_zero.2 ⟨hvo, rfl⟩) hone) rfl h)
  have HJ3 := Lib.hid (fun (vo : Value) wx hx => (Judge_any (told t x) vo x wx hx).mono fun e w' h => int_ok (a := 1) (by rw [show isWordB (told t x).C (told t x).T x = true from told_word (t := t) hvo]; exact errR_ok (askR_zero.2 ⟨hvo, rfl⟩) hone) (told_span hvo hone) h)
  have hjm := judge_more (low := z.low) (high := z.high) g1 g2 g3
  rw [HZV.out] at HJ1
  simp only [HZV.out] at HJ2
  simp only [HXV.out] at HJ3
  generalize judgeR (fishLo t z.time z.chamber) (fishHi t z.time z.chamber) z.low z.high = j1 at *
  generalize judgeR (fishLo (told t x) z.time z.chamber) (fishHi (told t x) z.time z.chamber) z.low z.high = j2 at *
  have hjc : j1 = 3 ∨ (j1 ≠ 3 ∧ j2 = j1) := by
    by_cases q : j1 = 3
    · exact .inl q
    · exact .inr ⟨q, hjm q⟩
  clear hz h1 hvt hvo hone hsub honet g1 g2 g3 hjm
  rcases hjc with rfl | ⟨hj3, rfl⟩
  all_goals
    go_enter Try.func4, Try.ntmps4
    go_wp2_with fail
    refine (HTO.out _ (HV.out.bel (by repeat (first | assumption | exact Bel.refl _ | refine Bel.drew ?_ | refine Bel.drewN ?_ _ | refine Bel.alloc ?_ _ | refine Bel.setCell ?_ (by simp <;> omega) _ | refine Bel.trans ?_ (by assumption))))).mono ?_
    rintro e w1 ⟨vo, rfl, hb, hO⟩
    have HO := Lib.hid hO
    have x0 : w1.cell? ⟨w.heap.size, 0, none⟩ = some (.int .i64 t.C) := hb.cell ((row_facts ((heap_alloc_old _ _ (by simp <;> omega)).trans ((heap_alloc_old _ _ (by simp <;> omega)).trans (new_row rfl)))).1 0)
    have x1 : w1.cell? ⟨w.heap.size, 1, none⟩ = some (.int .i64 t.T) := hb.cell ((row_facts ((heap_alloc_old _ _ (by simp <;> omega)).trans ((heap_alloc_old _ _ (by simp <;> omega)).trans (new_row rfl)))).1 1)
    have x2 : w1.cell? ⟨w.heap.size, 2, none⟩ = some (.slice a t.op.length c) := hb.cell ((row_facts ((heap_alloc_old _ _ (by simp <;> omega)).trans ((heap_alloc_old _ _ (by simp <;> omega)).trans (new_row rfl)))).1 2)
    have x3 : w1.cell? ⟨w.heap.size, 3, none⟩ = some (.slice wa t.ws.length wc) := hb.cell ((row_facts ((heap_alloc_old _ _ (by simp <;> omega)).trans ((heap_alloc_old _ _ (by simp <;> omega)).trans (new_row rfl)))).1 3)
    have k0 : w1.cell? ⟨w.heap.size + 1, 0, none⟩ = some (.int .i64 x.time) := hb.cell ((row_facts ((heap_alloc_old _ _ (by simp <;> omega)).trans (new_row (by simp)))).1 0)
    have k1 : w1.cell? ⟨w.heap.size + 1, 1, none⟩ = some (.int .i64 x.chamber) := hb.cell ((row_facts ((heap_alloc_old _ _ (by simp <;> omega)).trans (new_row (by simp)))).1 1)
    have k2 : w1.cell? ⟨w.heap.size + 1, 2, none⟩ = some (.int .i64 x.low) := hb.cell ((row_facts ((heap_alloc_old _ _ (by simp <;> omega)).trans (new_row (by simp)))).1 2)
    have k3 : w1.cell? ⟨w.heap.size + 1, 3, none⟩ = some (.int .i64 x.high) := hb.cell ((row_facts ((heap_alloc_old _ _ (by simp <;> omega)).trans (new_row (by simp)))).1 3)
    have z0 : w1.cell? ⟨w.heap.size + 1 + 1, 0, none⟩ = some (.int .i64 z.time) := hb.cell ((row_facts (new_row (by simp))).1 0)
    have z1 : w1.cell? ⟨w.heap.size + 1 + 1, 1, none⟩ = some (.int .i64 z.chamber) := hb.cell ((row_facts (new_row (by simp))).1 1)
    have z2 : w1.cell? ⟨w.heap.size + 1 + 1, 2, none⟩ = some (.int .i64 z.low) := hb.cell ((row_facts (new_row (by simp))).1 2)
    have z3 : w1.cell? ⟨w.heap.size + 1 + 1, 3, none⟩ = some (.int .i64 z.high) := hb.cell ((row_facts (new_row (by simp))).1 3)
    have hB1 : Bel w w1 := Bel.trans (by repeat (first | assumption | exact Bel.refl _ | refine Bel.drew ?_ | refine Bel.drewN ?_ _ | refine Bel.alloc ?_ _ | refine Bel.setCell ?_ (by simp <;> omega) _ | refine Bel.trans ?_ (by assumption))) hb
    have lx0 := cell_lt x0
    have lk0 := cell_lt k0
    have lz0 := cell_lt z0
    replace HV := Lib.hid (HV.out.bel hB1)
    clear hb
    obtain ⟨ov2, wv2, rfl, ⟨a2, c2, b2, off2, rv2, rfl, _⟩, ⟨wa2, wc2, wb2, woff2, rfl, _⟩⟩ := hO
    generalize htt : told t x = o at *
    have HTT := Lib.hid htt
    clear htt
    go_wp2_with fail
    refine (HRT.out _ (HV.out.bel (by repeat (first | assumption | exact Bel.refl _ | refine Bel.drew ?_ | refine Bel.drewN ?_ _ | refine Bel.alloc ?_ _ | refine Bel.setCell ?_ (by simp <;> omega) _ | refine Bel.trans ?_ (by assumption))))).mono ?_
    rintro e w2 ⟨rfl, hb⟩
    have y0 : w2.cell? ⟨w1.heap.size, 0, none⟩ = some (.int .i64 o.C) := hb.cell ((row_facts (new_row (by first | rfl | (simp; done)))).1 0)
    have y1 : w2.cell? ⟨w1.heap.size, 1, none⟩ = some (.int .i64 o.T) := hb.cell ((row_facts (new_row (by first | rfl | (simp; done)))).1 1)
    have y2 : w2.cell? ⟨w1.heap.size, 2, none⟩ = some (.slice a2 o.op.length c2) := hb.cell ((row_facts (new_row (by first | rfl | (simp; done)))).1 2)
    have y3 : w2.cell? ⟨w1.heap.size, 3, none⟩ = some (.slice wa2 o.ws.length wc2) := hb.cell ((row_facts (new_row (by first | rfl | (simp; done)))).1 3)
    have hk : Bel w1 w2 := Bel.trans (by repeat (first | assumption | exact Bel.refl _ | refine Bel.drew ?_ | refine Bel.drewN ?_ _ | refine Bel.alloc ?_ _ | refine Bel.setCell ?_ (by simp <;> omega) _ | refine Bel.trans ?_ (by assumption))) hb
    replace x0 := hk.cell x0
    replace x1 := hk.cell x1
    replace x2 := hk.cell x2
    replace x3 := hk.cell x3
    replace k0 := hk.cell k0
    replace k1 := hk.cell k1
    replace k2 := hk.cell k2
    replace k3 := hk.cell k3
    replace z0 := hk.cell z0
    replace z1 := hk.cell z1
    replace z2 := hk.cell z2
    replace z3 := hk.cell z3
    have lx0 := cell_lt x0
    have lk0 := cell_lt k0
    have lz0 := cell_lt z0
    have ly0 := cell_lt y0
    have hB2 : Bel w w2 := hB1.trans hk
    replace HV := Lib.hid (HV.out.bel hk)
    replace HO := Lib.hid (HO.out.bel hk)
    clear hb hk hB1
    go_wp2_with fail
    refine (HRO.out (.agg #[.int .i64 o.C, .int .i64 o.T, .slice a2 o.op.length c2, .slice wa2 o.ws.length wc2]) _ (HO.out.bel (by repeat (first | assumption | exact Bel.refl _ | refine Bel.drew ?_ | refine Bel.drewN ?_ _ | refine Bel.alloc ?_ _ | refine Bel.setCell ?_ (by simp <;> omega) _ | refine Bel.trans ?_ (by assumption))))).mono ?_
    rintro e w3 ⟨rfl, hb⟩
    have hk : Bel w2 w3 := Bel.trans (by repeat (first | assumption | exact Bel.refl _ | refine Bel.drew ?_ | refine Bel.drewN ?_ _ | refine Bel.alloc ?_ _ | refine Bel.setCell ?_ (by simp <;> omega) _ | refine Bel.trans ?_ (by assumption))) hb
    replace x0 := hk.cell x0
    replace x1 := hk.cell x1
    replace x2 := hk.cell x2
    replace x3 := hk.cell x3
    replace k0 := hk.cell k0
    replace k1 := hk.cell k1
    replace k2 := hk.cell k2
    replace k3 := hk.cell k3
    replace z0 := hk.cell z0
    replace z1 := hk.cell z1
    replace z2 := hk.cell z2
    replace z3 := hk.cell z3
    replace y0 := hk.cell y0
    replace y1 := hk.cell y1
    replace y2 := hk.cell y2
    replace y3 := hk.cell y3
    have lx0 := cell_lt x0
    have lk0 := cell_lt k0
    have lz0 := cell_lt z0
    have ly0 := cell_lt y0
    have hB3 : Bel w w3 := hB2.trans hk
    replace HV := Lib.hid (HV.out.bel hk)
    replace HO := Lib.hid (HO.out.bel hk)
    clear hb hk hB2
    go_wp2_with fail
    refine (HIO.out (.agg #[.int .i64 o.C, .int .i64 o.T, .slice a2 o.op.length c2, .slice wa2 o.ws.length wc2]) _ (HO.out.bel (by repeat (first | assumption | exact Bel.refl _ | refine Bel.drew ?_ | refine Bel.drewN ?_ _ | refine Bel.alloc ?_ _ | refine Bel.setCell ?_ (by simp <;> omega) _ | refine Bel.trans ?_ (by assumption))))).mono ?_
    rintro e w4 ⟨rfl, hb⟩
    have hk : Bel w3 w4 := Bel.trans (by repeat (first | assumption | exact Bel.refl _ | refine Bel.drew ?_ | refine Bel.drewN ?_ _ | refine Bel.alloc ?_ _ | refine Bel.setCell ?_ (by simp <;> omega) _ | refine Bel.trans ?_ (by assumption))) hb
    replace x0 := hk.cell x0
    replace x1 := hk.cell x1
    replace x2 := hk.cell x2
    replace x3 := hk.cell x3
    replace k0 := hk.cell k0
    replace k1 := hk.cell k1
    replace k2 := hk.cell k2
    replace k3 := hk.cell k3
    replace z0 := hk.cell z0
    replace z1 := hk.cell z1
    replace z2 := hk.cell z2
    replace z3 := hk.cell z3
    replace y0 := hk.cell y0
    replace y1 := hk.cell y1
    replace y2 := hk.cell y2
    replace y3 := hk.cell y3
    have lx0 := cell_lt x0
    have lk0 := cell_lt k0
    have lz0 := cell_lt z0
    have ly0 := cell_lt y0
    have hB4 : Bel w w4 := hB3.trans hk
    replace HV := Lib.hid (HV.out.bel hk)
    replace HO := Lib.hid (HO.out.bel hk)
    clear hb hk hB3
    go_wp2_with fail
    refine (HNA.out (.agg #[.int .i64 o.C, .int .i64 o.T, .slice a2 o.op.length c2, .slice wa2 o.ws.length wc2]) _ (HV.out.bel (by repeat (first | assumption | exact Bel.refl _ | refine Bel.drew ?_ | refine Bel.drewN ?_ _ | refine Bel.alloc ?_ _ | refine Bel.setCell ?_ (by simp <;> omega) _ | refine Bel.trans ?_ (by assumption)))) (HO.out.bel (by repeat (first | assumption | exact Bel.refl _ | refine Bel.drew ?_ | refine Bel.drewN ?_ _ | refine Bel.alloc ?_ _ | refine Bel.setCell ?_ (by simp <;> omega) _ | refine Bel.trans ?_ (by assumption))))).mono ?_
    rintro e w5 ⟨rfl, hb⟩
    have hk : Bel w4 w5 := Bel.trans (by repeat (first | assumption | exact Bel.refl _ | refine Bel.drew ?_ | refine Bel.drewN ?_ _ | refine Bel.alloc ?_ _ | refine Bel.setCell ?_ (by simp <;> omega) _ | refine Bel.trans ?_ (by assumption))) hb
    replace x0 := hk.cell x0
    replace x1 := hk.cell x1
    replace x2 := hk.cell x2
    replace x3 := hk.cell x3
    replace k0 := hk.cell k0
    replace k1 := hk.cell k1
    replace k2 := hk.cell k2
    replace k3 := hk.cell k3
    replace z0 := hk.cell z0
    replace z1 := hk.cell z1
    replace z2 := hk.cell z2
    replace z3 := hk.cell z3
    replace y0 := hk.cell y0
    replace y1 := hk.cell y1
    replace y2 := hk.cell y2
    replace y3 := hk.cell y3
    have lx0 := cell_lt x0
    have lk0 := cell_lt k0
    have lz0 := cell_lt z0
    have ly0 := cell_lt y0
    have hB5 : Bel w w5 := hB4.trans hk
    replace HV := Lib.hid (HV.out.bel hk)
    replace HO := Lib.hid (HO.out.bel hk)
    clear hb hk hB4
    go_wp2_with fail
    refine (HIW.out _).mono ?_
    rintro e w6 ⟨rfl, hb⟩
    have hk : Bel w5 w6 := Bel.trans (by repeat (first | assumption | exact Bel.refl _ | refine Bel.drew ?_ | refine Bel.drewN ?_ _ | refine Bel.alloc ?_ _ | refine Bel.setCell ?_ (by simp <;> omega) _ | refine Bel.trans ?_ (by assumption))) hb
    replace x0 := hk.cell x0
    replace x1 := hk.cell x1
    replace x2 := hk.cell x2
    replace x3 := hk.cell x3
    replace k0 := hk.cell k0
    replace k1 := hk.cell k1
    replace k2 := hk.cell k2
    replace k3 := hk.cell k3
    replace z0 := hk.cell z0
    replace z1 := hk.cell z1
    replace z2 := hk.cell z2
    replace z3 := hk.cell z3
    replace y0 := hk.cell y0
    replace y1 := hk.cell y1
    replace y2 := hk.cell y2
    replace y3 := hk.cell y3
    have lx0 := cell_lt x0
    have lk0 := cell_lt k0
    have lz0 := cell_lt z0
    have ly0 := cell_lt y0
    have hB6 : Bel w w6 := hB5.trans hk
    replace HV := Lib.hid (HV.out.bel hk)
    replace HO := Lib.hid (HO.out.bel hk)
    clear hb hk hB5
    go_wp2_with fail
    refine (HJ1.out _ (HV.out.bel (by repeat (first | assumption | exact Bel.refl _ | refine Bel.drew ?_ | refine Bel.drewN ?_ _ | refine Bel.alloc ?_ _ | refine Bel.setCell ?_ (by simp <;> omega) _ | refine Bel.trans ?_ (by assumption))))).mono ?_
    rintro e w7 ⟨rfl, hb⟩
    have hk : Bel w6 w7 := Bel.trans (by repeat (first | assumption | exact Bel.refl _ | refine Bel.drew ?_ | refine Bel.drewN ?_ _ | refine Bel.alloc ?_ _ | refine Bel.setCell ?_ (by simp <;> omega) _ | refine Bel.trans ?_ (by assumption))) hb
    replace x0 := hk.cell x0
    replace x1 := hk.cell x1
    replace x2 := hk.cell x2
    replace x3 := hk.cell x3
    replace k0 := hk.cell k0
    replace k1 := hk.cell k1
    replace k2 := hk.cell k2
    replace k3 := hk.cell k3
    replace z0 := hk.cell z0
    replace z1 := hk.cell z1
    replace z2 := hk.cell z2
    replace z3 := hk.cell z3
    replace y0 := hk.cell y0
    replace y1 := hk.cell y1
    replace y2 := hk.cell y2
    replace y3 := hk.cell y3
    have lx0 := cell_lt x0
    have lk0 := cell_lt k0
    have lz0 := cell_lt z0
    have ly0 := cell_lt y0
    have hB7 : Bel w w7 := hB6.trans hk
    replace HV := Lib.hid (HV.out.bel hk)
    replace HO := Lib.hid (HO.out.bel hk)
    clear hb hk hB6
    go_wp2_with fail
    refine (HJ2.out (.agg #[.int .i64 o.C, .int .i64 o.T, .slice a2 o.op.length c2, .slice wa2 o.ws.length wc2]) _ (HO.out.bel (by repeat (first | assumption | exact Bel.refl _ | refine Bel.drew ?_ | refine Bel.drewN ?_ _ | refine Bel.alloc ?_ _ | refine Bel.setCell ?_ (by simp <;> omega) _ | refine Bel.trans ?_ (by assumption))))).mono ?_
    rintro e w8 ⟨rfl, hb⟩
    have hk : Bel w7 w8 := Bel.trans (by repeat (first | assumption | exact Bel.refl _ | refine Bel.drew ?_ | refine Bel.drewN ?_ _ | refine Bel.alloc ?_ _ | refine Bel.setCell ?_ (by simp <;> omega) _ | refine Bel.trans ?_ (by assumption))) hb
    replace x0 := hk.cell x0
    replace x1 := hk.cell x1
    replace x2 := hk.cell x2
    replace x3 := hk.cell x3
    replace k0 := hk.cell k0
    replace k1 := hk.cell k1
    replace k2 := hk.cell k2
    replace k3 := hk.cell k3
    replace z0 := hk.cell z0
    replace z1 := hk.cell z1
    replace z2 := hk.cell z2
    replace z3 := hk.cell z3
    replace y0 := hk.cell y0
    replace y1 := hk.cell y1
    replace y2 := hk.cell y2
    replace y3 := hk.cell y3
    have lx0 := cell_lt x0
    have lk0 := cell_lt k0
    have lz0 := cell_lt z0
    have ly0 := cell_lt y0
    have hB8 : Bel w w8 := hB7.trans hk
    replace HV := Lib.hid (HV.out.bel hk)
    replace HO := Lib.hid (HO.out.bel hk)
    clear hb hk hB7
    go_wp2_with fail
    refine (HJ3.out (.agg #[.int .i64 o.C, .int .i64 o.T, .slice a2 o.op.length c2, .slice wa2 o.ws.length wc2]) _ (HO.out.bel (by repeat (first | assumption | exact Bel.refl _ | refine Bel.drew ?_ | refine Bel.drewN ?_ _ | refine Bel.alloc ?_ _ | refine Bel.setCell ?_ (by simp <;> omega) _ | refine Bel.trans ?_ (by assumption))))).mono ?_
    rintro e w9 ⟨rfl, hb⟩
    have hk : Bel w8 w9 := Bel.trans (by repeat (first | assumption | exact Bel.refl _ | refine Bel.drew ?_ | refine Bel.drewN ?_ _ | refine Bel.alloc ?_ _ | refine Bel.setCell ?_ (by simp <;> omega) _ | refine Bel.trans ?_ (by assumption))) hb
    replace x0 := hk.cell x0
    replace x1 := hk.cell x1
    replace x2 := hk.cell x2
    replace x3 := hk.cell x3
    replace k0 := hk.cell k0
    replace k1 := hk.cell k1
    replace k2 := hk.cell k2
    replace k3 := hk.cell k3
    replace z0 := hk.cell z0
    replace z1 := hk.cell z1
    replace z2 := hk.cell z2
    replace z3 := hk.cell z3
    replace y0 := hk.cell y0
    replace y1 := hk.cell y1
    replace y2 := hk.cell y2
    replace y3 := hk.cell y3
    have lx0 := cell_lt x0
    have lk0 := cell_lt k0
    have lz0 := cell_lt z0
    have ly0 := cell_lt y0
    have hB9 : Bel w w9 := hB8.trans hk
    replace HV := Lib.hid (HV.out.bel hk)
    replace HO := Lib.hid (HO.out.bel hk)
    clear hb hk hB8
    clear x0 x1 x2 x3 y0 y1 y2 y3 k0 k1 k2 k3 z0 z1 z2 z3 lx0 ly0 lk0 lz0
    go_wp2_with fail
    refine (works_any _).mono ?_
    rintro e wz ⟨rfl, hb⟩
    have HBZ := Lib.hid (hB9.trans (Bel.trans (by repeat (first | assumption | exact Bel.refl _ | refine Bel.drew ?_ | refine Bel.drewN ?_ _ | refine Bel.alloc ?_ _ | refine Bel.setCell ?_ (by simp <;> omega) _ | refine Bel.trans ?_ (by assumption))) hb))
    clear hb hB9
    go_wp2
    go_ret
    exact ⟨rfl, HBZ.out⟩
end Go.Proofs.Ytoiajjdhgffdaaa
