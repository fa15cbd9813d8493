/-
  law: CountsEnds: with one more word that the fish of a chamber are one end of Fish there is a truth, beyond the ends there is none: the call returns true for every trap and place, and changes nothing that was there
-/
import Derived.Test.YtoiajjdhgffdaaaWorks
import Derived.Test.YtoiajjdhgffdaaaTime
import Derived.Test.YtoiajjdhgffdaaaIsTruth
import Derived.Test.YtoiajjdhgffdaaaTruthV
import Derived.Test.YtoiajjdhgffdaaaSmall
import Derived.Test.YtoiajjdhgffdaaaRJudge
import Derived.Deep.DeepCutAuto
namespace Go.Proofs.Ytoiajjdhgffdaaa
open Go Go.RowKit
set_option maxHeartbeats 8000000
set_option maxRecDepth 100000
theorem truth_err {t : CT} {w w' : World} {e : Ending} (he : errR t true = 3) (h : TruthPost t w e w') : e = .returned (.tuple #[.slice none 0 0, .int .i64 3]) ∧ Bel w w' := by
  rcases h with ⟨_, h1, h2⟩ | ⟨h1, _⟩
  · rw [he] at h1; exact ⟨h1, h2⟩
  · omega
theorem truth_ok {t : CT} {w w' : World} {e : Ending} (he : errR t true = 0) (h : TruthPost t w e w') : ∃ v, e = .returned (.tuple #[v, .int .i64 0]) ∧ RowsAt w' v (truthRows t) ∧ Bel w w' := by
  rcases h with ⟨h1, _⟩ | ⟨_, h⟩
  · exact absurd he h1
  · exact h
theorem truthRows_small {t : CT} (hf : Fit t) : hugeB (truthRows t) = false := by
  have := hf.t2
  have := hf.c2
  unfold hugeB
  rw [Bool.or_eq_false_iff, Bool.not_eq_false']
  refine ⟨decide_eq_false (by rw [truthRows_len]; omega), ?_⟩
  unfold longB
  rw [allB_iff]
  intro i hi
  rw [truthRows_len] at hi
  rw [truthRows_row hi]
  simp; omega
theorem valid_told {t : CT} {x : CW} (h : validB t = true) (h7 : t.ws.length ≤ 7) (hx : isWordB t.C t.T x = true) : validB (told t x) = true := by
  have hw := (fit_told (fit_of_valid h) hx).wb
  unfold validB at h ⊢
  simp only [Bool.and_eq_true, decide_eq_true_eq] at h ⊢
  obtain ⟨a, b, c, d, e, f⟩ := h
  exact ⟨a, b, c, by simp [told]; omega, e, hw⟩
theorem isWordB_mk {C T i c n : Int} (hp : isPlaceB C T i c = true) (h0 : 0 ≤ n) (h1 : n ≤ 40) : isWordB C T ⟨i, c, n, n⟩ = true := by
  unfold isWordB
  simp only [Bool.and_eq_true, withinB_true]
  refine ⟨hp, ?_⟩
  omega
/-- What Truth says of a trap with one more word that just so many fish are at a place. -/
theorem ends_law {t : CT} (hval : validB t = true) (h7 : t.ws.length ≤ 7) (he : errR t true = 0) {i c n : Int} (hp : isPlaceB t.C t.T i c = true) (h0 : 0 ≤ n) (h1 : n ≤ 40) :
    (¬ (fishLo t i c ≤ n ∧ n ≤ fishHi t i c) ∧ errR (told t ⟨i, c, n, n⟩) true = 3) ∨
    ((fishLo t i c ≤ n ∧ n ≤ fishHi t i c) ∧ errR (told t ⟨i, c, n, n⟩) true = 0 ∧ Fit (told t ⟨i, c, n, n⟩) ∧ IsT t (truthRows (told t ⟨i, c, n, n⟩)) ∧ at0 (atL (truthRows (told t ⟨i, c, n, n⟩)) i.toNat) c.toNat = n) := by
  obtain ⟨hex, hf⟩ := errR_exact he
  have hx := isWordB_mk hp h0 h1
  have hv2 := valid_told hval h7 hx
  have ht := told_one hf hex hx
  simp only [] at ht
  by_cases hin : fishLo t i c ≤ n ∧ n ≤ fishHi t i c
  · have hone := oneB_iff.1 (ht.2 ⟨hin.2, hin.1⟩)
    have he2 : errR (told t ⟨i, c, n, n⟩) true = 0 := errR_ok (askR_zero.2 ⟨hv2, rfl⟩) hone
    obtain ⟨hex2, hf2⟩ := errR_exact he2
    have hT := isT_told (truth_isT hf2 hex2)
    refine .inr ⟨hin, he2, hf2, hT.1, ?_⟩
    have := hT.2
    simp only [] at this
    omega
  · exact .inl ⟨hin, errR_none (askR_zero.2 ⟨hv2, rfl⟩) fun q => hin (by have := ht.1 (oneB_iff.2 q); exact ⟨this.2, this.1⟩)⟩
theorem CountsEnds_any (t : CT) (v : Value) (pi pc : Int) (w : World) (hv : TrapAt w v t) : Calls Try.prog 3 #[v, .agg #[.int .i64 pi, .int .i64 pc]] w fun e w' => e = .returned (.bool true) ∧ Bel w w' := by
  have HV := Lib.hid hv
  have HRT := Lib.hid (fun wx hx => ready_any t v wx hx)
  obtain ⟨ov, wv, rfl, ⟨a, c, b, off, rv, rfl, _⟩, ⟨wa, wc, wb, woff, rfl, _⟩⟩ := hv
  by_cases hr : readyB t = true
  rotate_left
  · have hr : readyB t = false := by simpa using hr
    rw [hr] at HRT
    go_enter Try.func3, Try.ntmps3
    go_wp2_with fail
    refine (HRT.out _ (HV.out.bel (by repeat (first | assumption | exact Bel.refl _ | refine Bel.drew ?_ | refine Bel.drewN ?_ _ | refine Bel.alloc ?_ _ | refine Bel.setCell ?_ (by simp <;> omega) _ | refine Bel.trans ?_ (by assumption))))).mono ?_
    rintro e w1 ⟨rfl, hb⟩
    have x0 : w1.cell? ⟨w.heap.size, 0, none⟩ = some (.int .i64 t.C) := hb.cell ((row_facts ((heap_alloc_old _ _ (by simp <;> omega)).trans (new_row rfl))).1 0)
    have x1 : w1.cell? ⟨w.heap.size, 1, none⟩ = some (.int .i64 t.T) := hb.cell ((row_facts ((heap_alloc_old _ _ (by simp <;> omega)).trans (new_row rfl))).1 1)
    have x2 : w1.cell? ⟨w.heap.size, 2, none⟩ = some (.slice a t.op.length c) := hb.cell ((row_facts ((heap_alloc_old _ _ (by simp <;> omega)).trans (new_row rfl))).1 2)
    have x3 : w1.cell? ⟨w.heap.size, 3, none⟩ = some (.slice wa t.ws.length wc) := hb.cell ((row_facts ((heap_alloc_old _ _ (by simp <;> omega)).trans (new_row rfl))).1 3)
    have k0 : w1.cell? ⟨w.heap.size + 1, 0, none⟩ = some (.int .i64 pi) := hb.cell ((row_facts (new_row (by simp))).1 0)
    have k1 : w1.cell? ⟨w.heap.size + 1, 1, none⟩ = some (.int .i64 pc) := hb.cell ((row_facts (new_row (by simp))).1 1)
    have hB1 : Bel w w1 := Bel.trans (by repeat (first | assumption | exact Bel.refl _ | refine Bel.drew ?_ | refine Bel.drewN ?_ _ | refine Bel.alloc ?_ _ | refine Bel.setCell ?_ (by simp <;> omega) _ | refine Bel.trans ?_ (by assumption))) hb
    have lx0 := cell_lt x0
    have lk0 := cell_lt k0
    replace HV := Lib.hid (HV.out.bel hB1)
    clear hb
    go_wp2_with fail
    refine (works_any _).mono ?_
    rintro e wz ⟨rfl, hb⟩
    have HBZ := Lib.hid (hB1.trans (Bel.trans (by repeat (first | assumption | exact Bel.refl _ | refine Bel.drew ?_ | refine Bel.drewN ?_ _ | refine Bel.alloc ?_ _ | refine Bel.setCell ?_ (by simp <;> omega) _ | refine Bel.trans ?_ (by assumption))) hb))
    clear hb hB1
    go_wp2
    go_ret
    exact ⟨rfl, HBZ.out⟩
  rw [hr] at HRT
  have hval := (readyB_iff.1 hr).2
  obtain ⟨f1, f2, f3, f4, f5, _⟩ := fit_of_valid hval
  have hw8 : t.ws.length ≤ 8 := (validB_bounds hval).2.2.2.1
  have hroom : Room t := room_small (readyB_iff.1 hr).1
  clear hr
  by_cases h8 : t.ws.length = 8
  · have hb8 : ((t.ws.length : Int) == 8) = true := by simp [h8]
    clear h8
    go_enter Try.func3, Try.ntmps3
    go_wp2_with fail
    refine (HRT.out _ (HV.out.bel (by repeat (first | assumption | exact Bel.refl _ | refine Bel.drew ?_ | refine Bel.drewN ?_ _ | refine Bel.alloc ?_ _ | refine Bel.setCell ?_ (by simp <;> omega) _ | refine Bel.trans ?_ (by assumption))))).mono ?_
    rintro e w1 ⟨rfl, hb⟩
    have x0 : w1.cell? ⟨w.heap.size, 0, none⟩ = some (.int .i64 t.C) := hb.cell ((row_facts ((heap_alloc_old _ _ (by simp <;> omega)).trans (new_row rfl))).1 0)
    have x1 : w1.cell? ⟨w.heap.size, 1, none⟩ = some (.int .i64 t.T) := hb.cell ((row_facts ((heap_alloc_old _ _ (by simp <;> omega)).trans (new_row rfl))).1 1)
    have x2 : w1.cell? ⟨w.heap.size, 2, none⟩ = some (.slice a t.op.length c) := hb.cell ((row_facts ((heap_alloc_old _ _ (by simp <;> omega)).trans (new_row rfl))).1 2)
    have x3 : w1.cell? ⟨w.heap.size, 3, none⟩ = some (.slice wa t.ws.length wc) := hb.cell ((row_facts ((heap_alloc_old _ _ (by simp <;> omega)).trans (new_row rfl))).1 3)
    have k0 : w1.cell? ⟨w.heap.size + 1, 0, none⟩ = some (.int .i64 pi) := hb.cell ((row_facts (new_row (by simp))).1 0)
    have k1 : w1.cell? ⟨w.heap.size + 1, 1, none⟩ = some (.int .i64 pc) := hb.cell ((row_facts (new_row (by simp))).1 1)
    have hB1 : Bel w w1 := Bel.trans (by repeat (first | assumption | exact Bel.refl _ | refine Bel.drew ?_ | refine Bel.drewN ?_ _ | refine Bel.alloc ?_ _ | refine Bel.setCell ?_ (by simp <;> omega) _ | refine Bel.trans ?_ (by assumption))) hb
    have lx0 := cell_lt x0
    have lk0 := cell_lt k0
    replace HV := Lib.hid (HV.out.bel hB1)
    clear hb
    go_wp2_with fail
    refine (works_any _).mono ?_
    rintro e wz ⟨rfl, hb⟩
    have HBZ := Lib.hid (hB1.trans (Bel.trans (by repeat (first | assumption | exact Bel.refl _ | refine Bel.drew ?_ | refine Bel.drewN ?_ _ | refine Bel.alloc ?_ _ | refine Bel.setCell ?_ (by simp <;> omega) _ | refine Bel.trans ?_ (by assumption))) hb))
    clear hb hB1
    go_wp2
    go_ret
    exact ⟨rfl, HBZ.out⟩
  have hb8 : ((t.ws.length : Int) == 8) = false := by simp; omega
  have h7 : t.ws.length ≤ 7 := by omega
  clear h8 hw8
  have HPL := Lib.hid (fun wx => IsPlace_any t.C t.T pi pc (.slice a t.op.length c) (.slice wa t.ws.length wc) wx)
  by_cases hp : isPlaceB t.C t.T pi pc = true
  rotate_left
  · have hp : isPlaceB t.C t.T pi pc = false := by simpa using hp
    rw [hp] at HPL
    clear hp
    go_enter Try.func3, Try.ntmps3
    go_wp2_with fail
    refine (HRT.out _ (HV.out.bel (by repeat (first | assumption | exact Bel.refl _ | refine Bel.drew ?_ | refine Bel.drewN ?_ _ | refine Bel.alloc ?_ _ | refine Bel.setCell ?_ (by simp <;> omega) _ | refine Bel.trans ?_ (by assumption))))).mono ?_
    rintro e w1 ⟨rfl, hb⟩
    have x0 : w1.cell? ⟨w.heap.size, 0, none⟩ = some (.int .i64 t.C) := hb.cell ((row_facts ((heap_alloc_old _ _ (by simp <;> omega)).trans (new_row rfl))).1 0)
    have x1 : w1.cell? ⟨w.heap.size, 1, none⟩ = some (.int .i64 t.T) := hb.cell ((row_facts ((heap_alloc_old _ _ (by simp <;> omega)).trans (new_row rfl))).1 1)
    have x2 : w1.cell? ⟨w.heap.size, 2, none⟩ = some (.slice a t.op.length c) := hb.cell ((row_facts ((heap_alloc_old _ _ (by simp <;> omega)).trans (new_row rfl))).1 2)
    have x3 : w1.cell? ⟨w.heap.size, 3, none⟩ = some (.slice wa t.ws.length wc) := hb.cell ((row_facts ((heap_alloc_old _ _ (by simp <;> omega)).trans (new_row rfl))).1 3)
    have k0 : w1.cell? ⟨w.heap.size + 1, 0, none⟩ = some (.int .i64 pi) := hb.cell ((row_facts (new_row (by simp))).1 0)
    have k1 : w1.cell? ⟨w.heap.size + 1, 1, none⟩ = some (.int .i64 pc) := hb.cell ((row_facts (new_row (by simp))).1 1)
    have hB1 : Bel w w1 := Bel.trans (by repeat (first | assumption | exact Bel.refl _ | refine Bel.drew ?_ | refine Bel.drewN ?_ _ | refine Bel.alloc ?_ _ | refine Bel.setCell ?_ (by simp <;> omega) _ | refine Bel.trans ?_ (by assumption))) hb
    have lx0 := cell_lt x0
    have lk0 := cell_lt k0
    replace HV := Lib.hid (HV.out.bel hB1)
    clear hb
    go_wp2_with fail
    refine (HPL.out _).mono ?_
    rintro e w2 ⟨rfl, hb⟩
    have hk : Bel w1 w2 := Bel.trans (by repeat (first | assumption | exact Bel.refl _ | refine Bel.drew ?_ | refine Bel.drewN ?_ _ | refine Bel.alloc ?_ _ | refine Bel.setCell ?_ (by simp <;> omega) _ | refine Bel.trans ?_ (by assumption))) hb
    replace x0 := hk.cell x0
    replace x1 := hk.cell x1
    replace x2 := hk.cell x2
    replace x3 := hk.cell x3
    replace k0 := hk.cell k0
    replace k1 := hk.cell k1
    have lx0 := cell_lt x0
    have lk0 := cell_lt k0
    have hB2 : Bel w w2 := hB1.trans hk
    replace HV := Lib.hid (HV.out.bel hk)
    clear hb hk hB1
    go_wp2_with fail
    refine (works_any _).mono ?_
    rintro e wz ⟨rfl, hb⟩
    have HBZ := Lib.hid (hB2.trans (Bel.trans (by repeat (first | assumption | exact Bel.refl _ | refine Bel.drew ?_ | refine Bel.drewN ?_ _ | refine Bel.alloc ?_ _ | refine Bel.setCell ?_ (by simp <;> omega) _ | refine Bel.trans ?_ (by assumption))) hb))
    clear hb hB2
    go_wp2
    go_ret
    exact ⟨rfl, HBZ.out⟩
  rw [hp] at HPL
  have HP := Lib.hid hp
  have HF := Lib.hid (fun wx hx => Fish_any t (.agg #[.int .i64 t.C, .int .i64 t.T, .slice a t.op.length c, .slice wa t.ws.length wc]) pi pc wx hx)
  have HTR := Lib.hid (fun wx hx => Truth_any t (.agg #[.int .i64 t.C, .int .i64 t.T, .slice a t.op.length c, .slice wa t.ws.length wc]) wx hx)
  obtain ⟨⟨p1, p2⟩, p3, p4⟩ := isPlaceB_bounds f1 f2 f3 f4 hp
  by_cases he : errR t true = 0
  rotate_left
  · have h3 := errR_valid hval he
    replace HF := Lib.hid (fun wx hx => (HF.out wx hx).mono fun e w' h => span_err ((errR_true hp).trans h3) h)
    replace HTR := Lib.hid (fun wx hx => (HTR.out wx hx).mono fun e w' h => truth_err h3 h)
    clear h3 he hval hp f5 hroom h7
    go_enter Try.func3, Try.ntmps3
    go_wp2_with fail
    refine (HRT.out _ (HV.out.bel (by repeat (first | assumption | exact Bel.refl _ | refine Bel.drew ?_ | refine Bel.drewN ?_ _ | refine Bel.alloc ?_ _ | refine Bel.setCell ?_ (by simp <;> omega) _ | refine Bel.trans ?_ (by assumption))))).mono ?_
    rintro e w1 ⟨rfl, hb⟩
    have x0 : w1.cell? ⟨w.heap.size, 0, none⟩ = some (.int .i64 t.C) := hb.cell ((row_facts ((heap_alloc_old _ _ (by simp <;> omega)).trans (new_row rfl))).1 0)
    have x1 : w1.cell? ⟨w.heap.size, 1, none⟩ = some (.int .i64 t.T) := hb.cell ((row_facts ((heap_alloc_old _ _ (by simp <;> omega)).trans (new_row rfl))).1 1)
    have x2 : w1.cell? ⟨w.heap.size, 2, none⟩ = some (.slice a t.op.length c) := hb.cell ((row_facts ((heap_alloc_old _ _ (by simp <;> omega)).trans (new_row rfl))).1 2)
    have x3 : w1.cell? ⟨w.heap.size, 3, none⟩ = some (.slice wa t.ws.length wc) := hb.cell ((row_facts ((heap_alloc_old _ _ (by simp <;> omega)).trans (new_row rfl))).1 3)
    have k0 : w1.cell? ⟨w.heap.size + 1, 0, none⟩ = some (.int .i64 pi) := hb.cell ((row_facts (new_row (by simp))).1 0)
    have k1 : w1.cell? ⟨w.heap.size + 1, 1, none⟩ = some (.int .i64 pc) := hb.cell ((row_facts (new_row (by simp))).1 1)
    have hB1 : Bel w w1 := Bel.trans (by repeat (first | assumption | exact Bel.refl _ | refine Bel.drew ?_ | refine Bel.drewN ?_ _ | refine Bel.alloc ?_ _ | refine Bel.setCell ?_ (by simp <;> omega) _ | refine Bel.trans ?_ (by assumption))) hb
    have lx0 := cell_lt x0
    have lk0 := cell_lt k0
    replace HV := Lib.hid (HV.out.bel hB1)
    clear hb
    go_wp2_with fail
    refine (HPL.out _).mono ?_
    rintro e w2 ⟨rfl, hb⟩
    have hk : Bel w1 w2 := Bel.trans (by repeat (first | assumption | exact Bel.refl _ | refine Bel.drew ?_ | refine Bel.drewN ?_ _ | refine Bel.alloc ?_ _ | refine Bel.setCell ?_ (by simp <;> omega) _ | refine Bel.trans ?_ (by assumption))) hb
    replace x0 := hk.cell x0
    replace x1 := hk.cell x1
    replace x2 := hk.cell x2
    replace x3 := hk.cell x3
    replace k0 := hk.cell k0
    replace k1 := hk.cell k1
    have lx0 := cell_lt x0
    have lk0 := cell_lt k0
    have hB2 : Bel w w2 := hB1.trans hk
    replace HV := Lib.hid (HV.out.bel hk)
    clear hb hk hB1
    go_wp2_with fail
    refine (HF.out _ (HV.out.bel (by repeat (first | assumption | exact Bel.refl _ | refine Bel.drew ?_ | refine Bel.drewN ?_ _ | refine Bel.alloc ?_ _ | refine Bel.setCell ?_ (by simp <;> omega) _ | refine Bel.trans ?_ (by assumption))))).mono ?_
    rintro e w3 ⟨rfl, hb⟩
    have hk : Bel w2 w3 := Bel.trans (by repeat (first | assumption | exact Bel.refl _ | refine Bel.drew ?_ | refine Bel.drewN ?_ _ | refine Bel.alloc ?_ _ | refine Bel.setCell ?_ (by simp <;> omega) _ | refine Bel.trans ?_ (by assumption))) hb
    replace x0 := hk.cell x0
    replace x1 := hk.cell x1
    replace x2 := hk.cell x2
    replace x3 := hk.cell x3
    replace k0 := hk.cell k0
    replace k1 := hk.cell k1
    have lx0 := cell_lt x0
    have lk0 := cell_lt k0
    have hB3 : Bel w w3 := hB2.trans hk
    replace HV := Lib.hid (HV.out.bel hk)
    clear hb hk hB2
    go_wp2_with fail
    refine (HTR.out _ (HV.out.bel (by repeat (first | assumption | exact Bel.refl _ | refine Bel.drew ?_ | refine Bel.drewN ?_ _ | refine Bel.alloc ?_ _ | refine Bel.setCell ?_ (by simp <;> omega) _ | refine Bel.trans ?_ (by assumption))))).mono ?_
    rintro e w4 ⟨rfl, hb⟩
    have s0 : w4.cell? ⟨w3.heap.size, 0, none⟩ = some (.int .i64 0) := hb.cell ((row_facts (new_row (by first | rfl | (simp; done)))).1 0)
    have s1 : w4.cell? ⟨w3.heap.size, 1, none⟩ = some (.int .i64 0) := hb.cell ((row_facts (new_row (by first | rfl | (simp; done)))).1 1)
    have hk : Bel w3 w4 := Bel.trans (by repeat (first | assumption | exact Bel.refl _ | refine Bel.drew ?_ | refine Bel.drewN ?_ _ | refine Bel.alloc ?_ _ | refine Bel.setCell ?_ (by simp <;> omega) _ | refine Bel.trans ?_ (by assumption))) hb
    replace x0 := hk.cell x0
    replace x1 := hk.cell x1
    replace x2 := hk.cell x2
    replace x3 := hk.cell x3
    replace k0 := hk.cell k0
    replace k1 := hk.cell k1
    have lx0 := cell_lt x0
    have lk0 := cell_lt k0
    have ls0 := cell_lt s0
    have hB4 : Bel w w4 := hB3.trans hk
    replace HV := Lib.hid (HV.out.bel hk)
    clear hb hk hB3
    go_wp2_with fail
    refine (works_any _).mono ?_
    rintro e wz ⟨rfl, hb⟩
    have HBZ := Lib.hid (hB4.trans (Bel.trans (by repeat (first | assumption | exact Bel.refl _ | refine Bel.drew ?_ | refine Bel.drewN ?_ _ | refine Bel.alloc ?_ _ | refine Bel.setCell ?_ (by simp <;> omega) _ | refine Bel.trans ?_ (by assumption))) hb))
    clear hb hB4
    go_wp2
    go_ret
    exact ⟨rfl, HBZ.out⟩
  obtain ⟨i, rfl⟩ : ∃ i : Nat, pi = i := ⟨pi.toNat, by omega⟩
  obtain ⟨d, rfl⟩ : ∃ d : Nat, pc = d := ⟨pc.toNat, by omega⟩
  have HE := Lib.hid he
  have hbd := Fish_bounds (errR_exact he).2 (errR_exact he).1 i d (by omega) (by omega)
  have HEND := Lib.hid (fun (n : Int) (h0 : 0 ≤ n) (h1 : n ≤ 40) => ends_law hval h7 he hp h0 h1)
  have HVAL := Lib.hid hval
  replace HF := Lib.hid (fun wx hx => (HF.out wx hx).mono fun e w' h => span_ok ((errR_true hp).trans he) rfl rfl h)
  replace HTR := Lib.hid (fun wx hx => (HTR.out wx hx).mono fun e w' h => truth_ok he h)
  have HCO := Lib.hid (fun (n : Int) wx hx => Counted_any t i d n (.agg #[.int .i64 t.C, .int .i64 t.T, .slice a t.op.length c, .slice wa t.ws.length wc]) wx hx hroom)
  have HIT := Lib.hid (fun wx hx vl l hl => IsTruth_any t (.agg #[.int .i64 t.C, .int .i64 t.T, .slice a t.op.length c, .slice wa t.ws.length wc]) vl l wx hx hl hval)
  clear he hval hp f5 h7 hroom
  generalize fishLo t i d = lo at *
  generalize fishHi t i d = hi at *
  obtain ⟨g1, g2, g3⟩ := hbd
  go_enter Try.func3, Try.ntmps3
  go_wp2_with fail
  refine (HRT.out _ (HV.out.bel (by repeat (first | assumption | exact Bel.refl _ | refine Bel.drew ?_ | refine Bel.drewN ?_ _ | refine Bel.alloc ?_ _ | refine Bel.setCell ?_ (by simp <;> omega) _ | refine Bel.trans ?_ (by assumption))))).mono ?_
  rintro e w1 ⟨rfl, hb⟩
  have x0 : w1.cell? ⟨w.heap.size, 0, none⟩ = some (.int .i64 t.C) := hb.cell ((row_facts ((heap_alloc_old _ _ (by simp <;> omega)).trans (new_row rfl))).1 0)
  have x1 : w1.cell? ⟨w.heap.size, 1, none⟩ = some (.int .i64 t.T) := hb.cell ((row_facts ((heap_alloc_old _ _ (by simp <;> omega)).trans (new_row rfl))).1 1)
  have x2 : w1.cell? ⟨w.heap.size, 2, none⟩ = some (.slice a t.op.length c) := hb.cell ((row_facts ((heap_alloc_old _ _ (by simp <;> omega)).trans (new_row rfl))).1 2)
  have x3 : w1.cell? ⟨w.heap.size, 3, none⟩ = some (.slice wa t.ws.length wc) := hb.cell ((row_facts ((heap_alloc_old _ _ (by simp <;> omega)).trans (new_row rfl))).1 3)
  have k0 : w1.cell? ⟨w.heap.size + 1, 0, none⟩ = some (.int .i64 i) := hb.cell ((row_facts (new_row (by simp))).1 0)
  have k1 : w1.cell? ⟨w.heap.size + 1, 1, none⟩ = some (.int .i64 d) := hb.cell ((row_facts (new_row (by simp))).1 1)
  have hB1 : Bel w w1 := Bel.trans (by repeat (first | assumption | exact Bel.refl _ | refine Bel.drew ?_ | refine Bel.drewN ?_ _ | refine Bel.alloc ?_ _ | refine Bel.setCell ?_ (by simp <;> omega) _ | refine Bel.trans ?_ (by assumption))) hb
  have lx0 := cell_lt x0
  have lk0 := cell_lt k0
  replace HV := Lib.hid (HV.out.bel hB1)
  clear hb
  go_wp2_with fail
  refine (HPL.out _).mono ?_
  rintro e w2 ⟨rfl, hb⟩
  have hk : Bel w1 w2 := Bel.trans (by repeat (first | assumption | exact Bel.refl _ | refine Bel.drew ?_ | refine Bel.drewN ?_ _ | refine Bel.alloc ?_ _ | refine Bel.setCell ?_ (by simp <;> omega) _ | refine Bel.trans ?_ (by assumption))) hb
  replace x0 := hk.cell x0
  replace x1 := hk.cell x1
  replace x2 := hk.cell x2
  replace x3 := hk.cell x3
  replace k0 := hk.cell k0
  replace k1 := hk.cell k1
  have lx0 := cell_lt x0
  have lk0 := cell_lt k0
  have hB2 : Bel w w2 := hB1.trans hk
  replace HV := Lib.hid (HV.out.bel hk)
  clear hb hk hB1
  go_wp2_with fail
  refine (HF.out _ (HV.out.bel (by repeat (first | assumption | exact Bel.refl _ | refine Bel.drew ?_ | refine Bel.drewN ?_ _ | refine Bel.alloc ?_ _ | refine Bel.setCell ?_ (by simp <;> omega) _ | refine Bel.trans ?_ (by assumption))))).mono ?_
  rintro e w3 ⟨rfl, hb⟩
  have hk : Bel w2 w3 := Bel.trans (by repeat (first | assumption | exact Bel.refl _ | refine Bel.drew ?_ | refine Bel.drewN ?_ _ | refine Bel.alloc ?_ _ | refine Bel.setCell ?_ (by simp <;> omega) _ | refine Bel.trans ?_ (by assumption))) hb
  replace x0 := hk.cell x0
  replace x1 := hk.cell x1
  replace x2 := hk.cell x2
  replace x3 := hk.cell x3
  replace k0 := hk.cell k0
  replace k1 := hk.cell k1
  have lx0 := cell_lt x0
  have lk0 := cell_lt k0
  have hB3 : Bel w w3 := hB2.trans hk
  replace HV := Lib.hid (HV.out.bel hk)
  clear hb hk hB2
  go_wp2_with fail
  refine (HTR.out _ (HV.out.bel (by repeat (first | assumption | exact Bel.refl _ | refine Bel.drew ?_ | refine Bel.drewN ?_ _ | refine Bel.alloc ?_ _ | refine Bel.setCell ?_ (by simp <;> omega) _ | refine Bel.trans ?_ (by assumption))))).mono ?_
  rintro e w4 ⟨vk, rfl, _, hb⟩
  have s0 : w4.cell? ⟨w3.heap.size, 0, none⟩ = some (.int .i64 lo) := hb.cell ((row_facts (new_row (by first | rfl | (simp; done)))).1 0)
  have s1 : w4.cell? ⟨w3.heap.size, 1, none⟩ = some (.int .i64 hi) := hb.cell ((row_facts (new_row (by first | rfl | (simp; done)))).1 1)
  have hk : Bel w3 w4 := Bel.trans (by repeat (first | assumption | exact Bel.refl _ | refine Bel.drew ?_ | refine Bel.drewN ?_ _ | refine Bel.alloc ?_ _ | refine Bel.setCell ?_ (by simp <;> omega) _ | refine Bel.trans ?_ (by assumption))) hb
  replace x0 := hk.cell x0
  replace x1 := hk.cell x1
  replace x2 := hk.cell x2
  replace x3 := hk.cell x3
  replace k0 := hk.cell k0
  replace k1 := hk.cell k1
  have lx0 := cell_lt x0
  have lk0 := cell_lt k0
  have ls0 := cell_lt s0
  have hB4 : Bel w w4 := hB3.trans hk
  replace HV := Lib.hid (HV.out.bel hk)
  clear hb hk hB3
  clear lx0 lk0
  have n1 : ¬ lo < 0 := by omega
  have n2 : ¬ hi < lo := by omega
  have n3 : ¬ 40 < hi := by omega
  have hwm : IntKind.i64.wrap (lo - 1) = lo - 1 := IntWalk.i64_in _ (by omega)
  have HX := Lib.hid (And.intro x0 (And.intro x1 (And.intro x2 x3)))
  have HK := Lib.hid (And.intro k0 k1)
  have HS := Lib.hid (And.intro s0 s1)
  have HB4 := Lib.hid hB4
  clear hB4 HF HTR HPL
  go_upto_region 9 with fail
  go_cut [9] (fun s9 wx => ∃ m : Int, s9 = .int .i64 m ∧ 0 ≤ m ∧ m ≤ 41 ∧ Bel w4 wx)
  case first =>
    go_wp2
    all_goals go_meet
    all_goals exact ⟨_, rfl, by omega, by omega, Bel.refl _⟩
  case rest =>
    obtain ⟨m0, rfl, m1, m2, hBc⟩ := hcut
    clear x0 x1 x2 x3 k0 k1 s0 s1 ls0
    go_wp2
    go_loopw [9] (fun i wr => ∃ m : Int, i = .int .i64 m ∧ 0 ≤ m ∧ m ≤ 41 ∧ Bel w4 wr) (fun i _ => (42 - intOf i).toNat)
    case atStart => exact ⟨m0, rfl, m1, m2, hBc⟩
    case round =>
      clear hBc m1 m2
      obtain ⟨m, rfl, m1, m2, hB⟩ := hrel
      have s0 := hB.cell HS.out.1
      have s1 := hB.cell HS.out.2
      have HBR := Lib.hid hB
      clear hB
      go_upto_region 10 with fail
      go_cut [82] (fun s82 wx => ∃ bb : Bool, s82 = .bool bb ∧ (bb = true ↔ m ≤ hi + 1 ∧ m ≤ 40) ∧ Bel w4 wx)
      case first =>
        go_wp2
        all_goals go_meet
        all_goals exact ⟨_, rfl, by rw [decide_eq_true_eq]; omega, HBR.out⟩
      case rest =>
        obtain ⟨bb, rfl, hbb, hB⟩ := hcut
        clear s0 s1 HBR
        have HBR := Lib.hid hB
        clear hB
        cases bb
        · clear hbb
          go_wp2_with fail
          refine (works_any _).mono ?_
          rintro e wz ⟨rfl, hb⟩
          have HBZ := Lib.hid (HB4.out.trans (HBR.out.trans (Bel.trans (by repeat (first | assumption | exact Bel.refl _ | refine Bel.drew ?_ | refine Bel.drewN ?_ _ | refine Bel.alloc ?_ _ | refine Bel.setCell ?_ (by simp <;> omega) _ | refine Bel.trans ?_ (by assumption))) hb)))
          clear hb
          go_wp2
          go_ret
          exact ⟨rfl, HBZ.out⟩
        · obtain ⟨h1, h2⟩ := hbb.1 rfl
          clear hbb
          have s0 := HBR.out.cell HS.out.1
          have s1 := HBR.out.cell HS.out.2
          go_upto_region 12 with fail
          go_cut [94] (fun s94 wx => ∃ bb : Bool, s94 = .bool bb ∧ Bel w4 wx)
          case first =>
            by_cases c1 : lo < m
            · have q1 : decide (lo < m) = true := by simpa using c1
              go_wp2
              all_goals go_meet
              all_goals exact ⟨_, rfl, HBR.out⟩
            · have q1 : decide (lo < m) = false := by simpa using c1
              go_wp2
              all_goals go_meet
              all_goals exact ⟨_, rfl, HBR.out⟩
          case rest =>
            obtain ⟨bb, rfl, hB⟩ := hcut
            clear s0 s1 HBR
            have HBR := Lib.hid hB
            clear hB
            cases bb
            rotate_left
            · go_wp2
              go_roundw
              case rel => exact ⟨m + 1, by go_num, by omega, by omega, HBR.out⟩
              case measure => simp [intOf]; omega
            · have x0 := HBR.out.cell HX.out.1
              have x1 := HBR.out.cell HX.out.2.1
              have x2 := HBR.out.cell HX.out.2.2.1
              have x3 := HBR.out.cell HX.out.2.2.2
              have k0 := HBR.out.cell HK.out.1
              have k1 := HBR.out.cell HK.out.2
              go_wp2_with fail
              refine (HCO.out m _ (HV.out.bel HBR.out)).mono ?_
              rintro e w5 ⟨v', rfl, hb, hT⟩
              have HT := Lib.hid hT.now
              have HB5 := Lib.hid (HBR.out.trans hb)
              clear hb hT x0 x1 x2 x3 k0 k1
              rcases HEND.out m m1 h2 with ⟨e1, e2⟩ | ⟨e1, e2, e3, e4, e5⟩
              · have HTN := Lib.hid (fun wx hx => (Truth_any (told t ⟨i, d, m, m⟩) v' wx hx).mono fun e w' h => truth_err e2 h)
                clear e2
                go_wp2_with fail
                refine (HTN.out _ HT.out).mono ?_
                rintro e w6 ⟨rfl, hb⟩
                have HB6 := Lib.hid (HB5.out.trans hb)
                have s0 := HB6.out.cell HS.out.1
                have s1 := HB6.out.cell HS.out.2
                have ls0 := cell_lt s0
                have hnb : (decide (lo ≤ m) && decide (m ≤ hi)) = false := by simp; omega
                clear hb HTN HT
                go_wp2
                refine wp_region_mixB (Plan.seq [0, 1, 2, 3, 1004, 5, 6, 7, 8, 9, 10, 11, 12, 13, 14, 15, 16, 17, 18, 1019, 20, 21, 22, 1023, 24, 25, 26, 27, 28, 29, 30, 31, 32, 33, 34, 35, 36, 37, 38, 39, 40] .nil) (by kernel_rfl) (by kernel_rfl) (fun hcur => ?_)
                simp only [Plan.seq, Plan.fill, List.getD_cons_zero, List.getD_cons_succ, Nat.reduceLT, ↓reduceIte, Nat.reduceSub]
                apply mix_pure _ rfl
                · intro w' hw'
                  have hcr := hw'.cells
                  go_simp
                  rfl
                intro K hK
                go_simp
                refine hK _ ?_
                clear hK K
                apply mix_pure _ rfl
                · intro w' hw'
                  have hcr := hw'.cells
                  go_simp
                  rfl
                intro K hK
                go_simp
                refine hK _ ?_
                clear hK K
                apply mix_pure _ rfl
                · intro w' hw'
                  have hcr := hw'.cells
                  go_simp
                  rfl
                intro K hK
                go_simp
                refine hK _ ?_
                clear hK K
                apply mix_pure _ rfl
                · intro w' hw'
                  have hcr := hw'.cells
                  go_simp
                  rfl
                intro K hK
                go_simp
                refine hK _ ?_
                clear hK K
                refine mix_act rfl (fun K hK => ?_)
                go_simp
                refine (has_any _ _ _ _).mono ?_
                rintro e w7 ⟨rfl, hb⟩
                rw [hnb]
                simp only []
                refine hK _ _ (hcur.trans hb) (fun hcur => ?_)
                clear hK K hb
                apply mix_pure _ rfl
                · intro w' hw'
                  have hcr := hw'.cells
                  go_simp
                  rfl
                intro K hK
                go_simp
                refine hK _ ?_
                clear hK K
                apply mix_pure _ rfl
                · intro w' hw'
                  have hcr := hw'.cells
                  go_simp
                  rfl
                intro K hK
                go_simp
                refine hK _ ?_
                clear hK K
                apply mix_pureG _ (by go_simp)
                · intro w' hw'
                  have hcr := hw'.cells
                  go_simp
                  rfl
                intro K hK
                go_simp
                refine hK _ ?_
                clear hK K
                apply mix_pureG _ (by go_simp)
                · intro w' hw'
                  have hcr := hw'.cells
                  go_simp
                  rfl
                intro K hK
                go_simp
                refine hK _ ?_
                clear hK K
                apply mix_pureG _ (by go_simp)
                · intro w' hw'
                  have hcr := hw'.cells
                  go_simp
                  rfl
                intro K hK
                go_simp
                refine hK _ ?_
                clear hK K
                apply mix_pureG _ (by go_simp)
                · intro w' hw'
                  have hcr := hw'.cells
                  go_simp
                  rfl
                intro K hK
                go_simp
                refine hK _ ?_
                clear hK K
                apply mix_pureG _ (by go_simp)
                · intro w' hw'
                  have hcr := hw'.cells
                  go_simp
                  rfl
                intro K hK
                go_simp
                refine hK _ ?_
                clear hK K
                apply mix_pureG _ (by go_simp)
                · intro w' hw'
                  have hcr := hw'.cells
                  go_simp
                  rfl
                intro K hK
                go_simp
                refine hK _ ?_
                clear hK K
                apply mix_pure _ rfl
                · intro w' hw'
                  have hcr := hw'.cells
                  go_simp
                  rfl
                intro K hK
                go_simp
                refine hK _ ?_
                clear hK K
                apply mix_pure _ rfl
                · intro w' hw'
                  have hcr := hw'.cells
                  go_simp
                  rfl
                intro K hK
                go_simp
                refine hK _ ?_
                clear hK K
                apply mix_pureG _ (by go_simp)
                · intro w' hw'
                  have hcr := hw'.cells
                  go_simp
                  rfl
                intro K hK
                go_simp
                refine hK _ ?_
                clear hK K
                apply mix_pureG _ (by go_simp)
                · intro w' hw'
                  have hcr := hw'.cells
                  go_simp
                  rfl
                intro K hK
                go_simp
                refine hK _ ?_
                clear hK K
                apply mix_pureG _ (by go_simp)
                · intro w' hw'
                  have hcr := hw'.cells
                  go_simp
                  rfl
                intro K hK
                go_simp
                refine hK _ ?_
                clear hK K
                refine mix_skip (by go_simp) ?_
                intro K hK
                go_simp
                refine hK _ ?_
                clear hK K
                refine mix_askip (by go_simp) ?_
                intro K hK
                go_simp
                refine hK _ ?_
                clear hK K
                refine mix_skip (by go_simp) ?_
                intro K hK
                go_simp
                refine hK _ ?_
                clear hK K
                refine mix_skip (by go_simp; simp [undef]) ?_
                intro K hK
                go_simp
                refine hK _ ?_
                clear hK K
                refine mix_skip (by go_simp; simp [undef]) ?_
                intro K hK
                go_simp
                refine hK _ ?_
                clear hK K
                refine mix_askip (by go_simp; simp [undef]) ?_
                intro K hK
                go_simp
                refine hK _ ?_
                clear hK K
                refine mix_skip (by go_simp; simp [undef]) ?_
                intro K hK
                go_simp
                refine hK _ ?_
                clear hK K
                refine mix_skip (by go_simp) ?_
                intro K hK
                go_simp
                refine hK _ ?_
                clear hK K
                refine mix_skip (by go_simp) ?_
                intro K hK
                go_simp
                refine hK _ ?_
                clear hK K
                refine mix_skip (by go_simp; simp [undef]) ?_
                intro K hK
                go_simp
                refine hK _ ?_
                clear hK K
                refine mix_skip (by go_simp; simp [undef]) ?_
                intro K hK
                go_simp
                refine hK _ ?_
                clear hK K
                refine mix_skip (by go_simp; simp [undef]) ?_
                intro K hK
                go_simp
                refine hK _ ?_
                clear hK K
                refine mix_skip (by go_simp; simp [undef]) ?_
                intro K hK
                go_simp
                refine hK _ ?_
                clear hK K
                refine mix_skip (by go_simp; simp [undef]) ?_
                intro K hK
                go_simp
                refine hK _ ?_
                clear hK K
                refine mix_skip (by go_simp; simp [undef]) ?_
                intro K hK
                go_simp
                refine hK _ ?_
                clear hK K
                refine mix_skip (by go_simp; simp [undef]) ?_
                intro K hK
                go_simp
                refine hK _ ?_
                clear hK K
                refine mix_skip (by go_simp; simp [undef]) ?_
                intro K hK
                go_simp
                refine hK _ ?_
                clear hK K
                refine mix_skip (by go_simp; simp [undef]) ?_
                intro K hK
                go_simp
                refine hK _ ?_
                clear hK K
                refine mix_skip (by go_simp; simp [undef]) ?_
                intro K hK
                go_simp
                refine hK _ ?_
                clear hK K
                refine mix_skip (by go_simp; simp [undef]) ?_
                intro K hK
                go_simp
                refine hK _ ?_
                clear hK K
                refine mix_skip (by go_simp) ?_
                intro K hK
                go_simp
                refine hK _ ?_
                clear hK K
                apply mix_pureG _ (by go_simp)
                · intro w' hw'
                  have hcr := hw'.cells
                  go_simp
                  rfl
                intro K hK
                go_simp
                refine hK _ ?_
                clear hK K
                apply mix_pure _ rfl
                · intro w' hw'
                  have hcr := hw'.cells
                  go_simp
                  rfl
                intro K hK
                go_simp
                refine hK _ ?_
                clear hK K
                refine mix_nil ?_
                have HB7 := Lib.hid (HB6.out.trans hcur)
                clear hcur s0 s1 ls0
                go_wp2
                go_roundw
                case rel => exact ⟨m + 1, by go_num, by omega, by omega, HB7.out⟩
                case measure => simp [intOf]; omega
              · have HTN := Lib.hid (fun wx hx => (Truth_any (told t ⟨i, d, m, m⟩) v' wx hx).mono fun e w' h => truth_ok e2 h)
                have hC1 : (told t ⟨i, d, m, m⟩).C = t.C := rfl
                have hT1 : (told t ⟨i, d, m, m⟩).T = t.T := rfl
                have HHU := Lib.hid (truthRows_small e3)
                have HIS := Lib.hid e4
                have HLR := Lib.hid (truthRows_len (told t ⟨i, d, m, m⟩))
                have HRR := Lib.hid (truthRows_row (t := told t ⟨i, d, m, m⟩) (i := i) (by rw [hT1]; omega))
                have HAT := Lib.hid (show at0 (atL (truthRows (told t ⟨i, d, m, m⟩)) i) d = m from by simpa using e5)
                clear e2 e3 e4 e5 hC1 hT1
                go_wp2_with fail
                refine (HTN.out _ HT.out).mono ?_
                rintro e w6 ⟨vr, rfl, hr, hb⟩
                have HB6 := Lib.hid (HB5.out.trans hb)
                have HR := Lib.hid hr
                have HIT6 := Lib.hid (fun wx (hx : Bel w6 wx) => (HIT.out wx (HV.out.bel (HB6.out.trans hx)) vr _ (HR.out.bel hx)).mono (R' := fun e w' => e = .returned (.bool true) ∧ Bel wx w') fun e w' h => by
                  obtain ⟨bq, k1, k2, k3⟩ := h
                  rw [k2.2 HIS.out] at k1
                  exact ⟨k1, k3⟩)
                have HHU6 := Lib.hid (fun wx (hx : Bel w6 wx) => (huge_any vr _ wx (HR.out.bel hx)).mono (R' := fun e w' => e = .returned (.bool false) ∧ Bel wx w') fun e w' h => ⟨by rw [h.1, HHU.out], h.2⟩)
                obtain ⟨an, cn, bn, offn, rn, rfl, han, hnl, hnc⟩ := hr
                have hrl := HLR.out
                obtain ⟨r1, ra, rc, rb, roff, er, hra, hrlen, hcell⟩ := hnc i (by rw [hrl]; show i < t.T.toNat; omega)
                have r2 := hcell d (by rw [HRR.out]; show d < t.C.toNat; omega)
                rw [HAT.out] at r2
                rw [er] at r1
                have hixn := idxRows (c := cn) han
                have hixr := idxInts (c := rc) hra
                have hln : i < (truthRows (told t ⟨i, d, m, m⟩)).length := by rw [hrl]; show i < t.T.toNat; omega
                have hlr : d < (atL (truthRows (told t ⟨i, d, m, m⟩)) i).length := by rw [HRR.out]; show d < t.C.toNat; omega
                generalize (atL (truthRows (told t ⟨i, d, m, m⟩)) i).length = nr at *
                generalize (truthRows (told t ⟨i, d, m, m⟩)).length = nn at *
                have hlni : (i : Int) < (nn : Int) := by omega
                have hlri : (d : Int) < (nr : Int) := by omega
                have hnb : (decide (lo ≤ m) && decide (m ≤ hi)) = true := by simp; omega
                have s0 := HB6.out.cell HS.out.1
                have s1 := HB6.out.cell HS.out.2
                have ls0 := cell_lt s0
                have x0 := HB6.out.cell HX.out.1
                have x1 := HB6.out.cell HX.out.2.1
                have x2 := HB6.out.cell HX.out.2.2.1
                have x3 := HB6.out.cell HX.out.2.2.2
                have k0 := HB6.out.cell HK.out.1
                have k1 := HB6.out.cell HK.out.2
                have lx0 := cell_lt x0
                have lk0 := cell_lt k0
                have lr1 := cell_lt r1
                have lr2 := cell_lt r2
                clear hb HTN HT hnc hcell er han hra hnl hrlen hrl
                go_wp2
                refine wp_region_mixB (Plan.seq [0, 1, 2, 3, 1004, 5, 6, 7, 8, 9, 10, 11, 12, 13, 14, 15, 16, 17, 18, 1019, 20, 21, 22, 1023, 24, 25, 26, 27, 28, 29, 30, 31, 32, 33, 34, 35, 36, 37, 38, 39, 40] .nil) (by kernel_rfl) (by kernel_rfl) (fun hcur => ?_)
                simp only [Plan.seq, Plan.fill, List.getD_cons_zero, List.getD_cons_succ, Nat.reduceLT, ↓reduceIte, Nat.reduceSub]
                apply mix_pure _ rfl
                · intro w' hw'
                  have hcr := hw'.cells
                  go_simp
                  rfl
                intro K hK
                go_simp
                refine hK _ ?_
                clear hK K
                apply mix_pure _ rfl
                · intro w' hw'
                  have hcr := hw'.cells
                  go_simp
                  rfl
                intro K hK
                go_simp
                refine hK _ ?_
                clear hK K
                apply mix_pure _ rfl
                · intro w' hw'
                  have hcr := hw'.cells
                  go_simp
                  rfl
                intro K hK
                go_simp
                refine hK _ ?_
                clear hK K
                apply mix_pure _ rfl
                · intro w' hw'
                  have hcr := hw'.cells
                  go_simp
                  rfl
                intro K hK
                go_simp
                refine hK _ ?_
                clear hK K
                refine mix_act rfl (fun K hK => ?_)
                go_simp
                refine (has_any _ _ _ _).mono ?_
                rintro e w7 ⟨rfl, hb⟩
                rw [hnb]
                simp only []
                refine hK _ _ (hcur.trans hb) (fun hcur => ?_)
                clear hK K hb
                apply mix_pure _ rfl
                · intro w' hw'
                  have hcr := hw'.cells
                  go_simp
                  rfl
                intro K hK
                go_simp
                refine hK _ ?_
                clear hK K
                apply mix_pure _ rfl
                · intro w' hw'
                  have hcr := hw'.cells
                  go_simp
                  rfl
                intro K hK
                go_simp
                refine hK _ ?_
                clear hK K
                apply mix_pureG _ (by go_simp)
                · intro w' hw'
                  have hcr := hw'.cells
                  go_simp
                  rfl
                intro K hK
                go_simp
                refine hK _ ?_
                clear hK K
                apply mix_pureG _ (by go_simp)
                · intro w' hw'
                  have hcr := hw'.cells
                  go_simp
                  rfl
                intro K hK
                go_simp
                refine hK _ ?_
                clear hK K
                apply mix_pureG _ (by go_simp)
                · intro w' hw'
                  have hcr := hw'.cells
                  go_simp
                  rfl
                intro K hK
                go_simp
                refine hK _ ?_
                clear hK K
                refine mix_skip (by go_simp) ?_
                intro K hK
                go_simp
                refine hK _ ?_
                clear hK K
                refine mix_skip (by go_simp) ?_
                intro K hK
                go_simp
                refine hK _ ?_
                clear hK K
                apply mix_pureG _ (by go_simp)
                · intro w' hw'
                  have hcr := hw'.cells
                  go_simp
                  rfl
                intro K hK
                go_simp
                refine hK _ ?_
                clear hK K
                apply mix_pure _ rfl
                · intro w' hw'
                  have hcr := hw'.cells
                  go_simp
                  rfl
                intro K hK
                go_simp
                refine hK _ ?_
                clear hK K
                apply mix_pure _ rfl
                · intro w' hw'
                  have hcr := hw'.cells
                  go_simp
                  rfl
                intro K hK
                go_simp
                refine hK _ ?_
                clear hK K
                apply mix_pureG _ (by go_simp)
                · intro w' hw'
                  have hcr := hw'.cells
                  go_simp
                  rfl
                intro K hK
                go_simp
                refine hK _ ?_
                clear hK K
                apply mix_pureG _ (by go_simp)
                · intro w' hw'
                  have hcr := hw'.cells
                  go_simp
                  rfl
                intro K hK
                go_simp
                refine hK _ ?_
                clear hK K
                apply mix_pureG _ (by go_simp)
                · intro w' hw'
                  have hcr := hw'.cells
                  go_simp
                  rfl
                intro K hK
                go_simp
                refine hK _ ?_
                clear hK K
                apply mix_pureG _ (by go_simp)
                · intro w' hw'
                  have hcr := hw'.cells
                  go_simp
                  rfl
                intro K hK
                go_simp
                refine hK _ ?_
                clear hK K
                refine mix_actG (by go_simp) (fun K hK => ?_)
                go_simp
                refine (HHU6.out _ hcur).mono ?_
                rintro e w8 ⟨rfl, hb⟩
                simp only []
                refine hK _ _ (hcur.trans hb) (fun hcur => ?_)
                clear hK K hb
                apply mix_pureG _ (by go_simp)
                · intro w' hw'
                  have hcr := hw'.cells
                  go_simp
                  rfl
                intro K hK
                go_simp
                refine hK _ ?_
                clear hK K
                apply mix_pureG _ (by go_simp)
                · intro w' hw'
                  have hcr := hw'.cells
                  go_simp
                  rfl
                intro K hK
                go_simp
                refine hK _ ?_
                clear hK K
                apply mix_pureG _ (by go_simp)
                · intro w' hw'
                  have hcr := hw'.cells
                  go_simp
                  rfl
                intro K hK
                go_simp
                refine hK _ ?_
                clear hK K
                refine mix_actG (by go_simp) (fun K hK => ?_)
                go_simp
                refine (HIT6.out _ hcur).mono ?_
                rintro e w9 ⟨rfl, hb⟩
                simp only []
                refine hK _ _ (hcur.trans hb) (fun hcur => ?_)
                clear hK K hb
                apply mix_pureG _ (by go_simp)
                · intro w' hw'
                  have hcr := hw'.cells
                  go_simp
                  rfl
                intro K hK
                go_simp
                refine hK _ ?_
                clear hK K
                apply mix_pureG _ (by go_simp)
                · intro w' hw'
                  have hcr := hw'.cells
                  go_simp
                  rfl
                intro K hK
                go_simp
                refine hK _ ?_
                clear hK K
                apply mix_pureG _ (by go_simp)
                · intro w' hw'
                  have hcr := hw'.cells
                  go_simp
                  rfl
                intro K hK
                go_simp
                refine hK _ ?_
                clear hK K
                apply mix_pureG _ (by go_simp)
                · intro w' hw'
                  have hcr := hw'.cells
                  go_simp
                  rfl
                intro K hK
                go_simp
                refine hK _ ?_
                clear hK K
                apply mix_pureG _ (by go_simp)
                · intro w' hw'
                  have hcr := hw'.cells
                  go_simp
                  rfl
                intro K hK
                go_simp
                refine hK _ ?_
                clear hK K
                apply mix_pureG _ (by go_simp)
                · intro w' hw'
                  have hcr := hw'.cells
                  go_simp
                  rfl
                intro K hK
                go_simp
                refine hK _ ?_
                clear hK K
                apply mix_pureG _ (by go_simp)
                · intro w' hw'
                  have hcr := hw'.cells
                  go_simp
                  rfl
                intro K hK
                go_simp
                refine hK _ ?_
                clear hK K
                apply mix_pureG _ (by go_simp)
                · intro w' hw'
                  have hcr := hw'.cells
                  go_simp
                  rfl
                intro K hK
                go_simp
                refine hK _ ?_
                clear hK K
                apply mix_pureG _ (by go_simp)
                · intro w' hw'
                  have hcr := hw'.cells
                  go_simp
                  rfl
                intro K hK
                go_simp
                refine hK _ ?_
                clear hK K
                apply mix_pureG _ (by go_simp)
                · intro w' hw'
                  have hcr := hw'.cells
                  go_simp
                  rfl
                intro K hK
                go_simp
                refine hK _ ?_
                clear hK K
                apply mix_pureG _ (by go_simp)
                · intro w' hw'
                  have hcr := hw'.cells
                  go_simp
                  rfl
                intro K hK
                go_simp
                refine hK _ ?_
                clear hK K
                apply mix_pureG _ (by go_simp)
                · intro w' hw'
                  have hcr := hw'.cells
                  go_simp
                  rfl
                intro K hK
                go_simp
                refine hK _ ?_
                clear hK K
                apply mix_pureG _ (by go_simp)
                · intro w' hw'
                  have hcr := hw'.cells
                  go_simp
                  rfl
                intro K hK
                go_simp
                refine hK _ ?_
                clear hK K
                apply mix_pureG _ (by go_simp)
                · intro w' hw'
                  have hcr := hw'.cells
                  go_simp
                  rfl
                intro K hK
                go_simp
                refine hK _ ?_
                clear hK K
                apply mix_pureG _ (by go_simp)
                · intro w' hw'
                  have hcr := hw'.cells
                  go_simp
                  rfl
                intro K hK
                go_simp
                refine hK _ ?_
                clear hK K
                apply mix_pureG _ (by go_simp)
                · intro w' hw'
                  have hcr := hw'.cells
                  go_simp
                  rfl
                intro K hK
                go_simp
                refine hK _ ?_
                clear hK K
                apply mix_pure _ rfl
                · intro w' hw'
                  have hcr := hw'.cells
                  go_simp
                  rfl
                intro K hK
                go_simp
                refine hK _ ?_
                clear hK K
                refine mix_nil ?_
                have HB7 := Lib.hid (HB6.out.trans hcur)
                clear hcur s0 s1 ls0 k0 k1 r1 r2 x0 x1 x2 x3 lx0 lk0 lr1 lr2
                go_wp2
                go_roundw
                case rel => exact ⟨m + 1, by go_num, by omega, by omega, HB7.out⟩
                case measure => simp [intOf]; omega
end Go.Proofs.Ytoiajjdhgffdaaa
