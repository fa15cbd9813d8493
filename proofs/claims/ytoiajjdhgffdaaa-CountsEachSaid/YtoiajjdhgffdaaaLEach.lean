/-
  law: CountsEach: in each truth each number is within Fish, and all that are in the trap, have come in, and have passed a door, within Whole, Came and Passed; Judge says no more than the truth bears out: the call returns true for every trap, numbers and word, and changes nothing that was there
-/
import Derived.Test.YtoiajjdhgffdaaaWorks
import Derived.Test.YtoiajjdhgffdaaaTime
import Derived.Test.YtoiajjdhgffdaaaSmall
import Derived.Test.YtoiajjdhgffdaaaCopied
import Derived.Test.YtoiajjdhgffdaaaHolds
import Derived.Test.YtoiajjdhgffdaaaTruthV
import Derived.Test.YtoiajjdhgffdaaaNarrower
import Derived.Deep.DeepCutAuto
import Derived.Deep.QuietTactic
import Derived.BigQuiet
namespace Go.Proofs.Ytoiajjdhgffdaaa
open Go Go.RowKit
set_option maxHeartbeats 8000000
set_option maxRecDepth 100000
structure EachF (t : CT) (l : List (List Int)) : Prop where
  whole : ∀ i : Nat, i < t.T.toNat → wholeLo t i ≤ beh l i 0 ∧ beh l i 0 ≤ wholeHi t i
  came : ∀ i : Nat, i < t.T.toNat → cameLo t 0 i ≤ beh l i 0 - beh l 0 0 ∧ beh l i 0 - beh l 0 0 ≤ cameHi t 0 i
  fish : ∀ i c : Nat, i < t.T.toNat → c < t.C.toNat → fishLo t i c ≤ at0 (atL l i) c ∧ at0 (atL l i) c ≤ fishHi t i c
  pass : ∀ i c : Nat, i + 1 < t.T.toNat → c < t.C.toNat → passLo t i c ≤ beh l (i + 1) c - beh l i c ∧ beh l (i + 1) c - beh l i c ≤ passHi t i c
  bound : ∀ i c : Nat, i < t.T.toNat → c ≤ t.C.toNat → 0 ≤ beh l i c ∧ beh l i c ≤ 40
theorem each_law {t : CT} (hval : validB t = true) {l : List (List Int)} (h : IsT t l) : errR t true = 0 ∧ EachF t l := by
  have hf := fit_of_valid hval
  have hs := h.sat hf
  have he : errR t true = 0 := errR_ok (askR_zero.2 ⟨hval, rfl⟩) ⟨_, hs⟩
  have hex := (errR_exact he).1
  have T0 := hf.t1
  refine ⟨he, fun i hi => ?_, fun i hi => ?_, fun i c hi hc => h.fish hf hex hi hc, fun i c hi hc => ?_, fun i c hi hc => hs.bounds i hi c hc⟩
  · have a := (Whole_min hf hex i hi).1 _ hs
    have b := (Whole_max hf hex i hi).1 _ hs
    have d := hs.last i hi
    simp only [] at a b
    omega
  · have a := (Came_min hf hex 0 i (by omega) hi).1 _ hs
    have b := (Came_max hf hex 0 i (by omega) hi).1 _ hs
    exact ⟨a, b⟩
  · have a := (Passed_min hf hex i c hi hc).1 _ hs
    have b := (Passed_max hf hex i c hi hc).1 _ hs
    exact ⟨a, b⟩
theorem has_true (a b n : Int) (w : World) (h : a ≤ n ∧ n ≤ b) : Calls Try.prog 22 #[.agg #[.int .i64 a, .int .i64 b], .int .i64 n] w fun e w' => e = .returned (.bool true) ∧ Bel w w' :=
  (has_any a b n w).mono fun e w' k => ⟨k.1.trans (by rw [decide_eq_true h.1, decide_eq_true h.2]; rfl), k.2⟩
open Classical in
noncomputable def isTB (t : CT) (l : List (List Int)) : Bool := decide (IsT t l)
open Classical in
theorem isTB_iff {t : CT} {l : List (List Int)} : isTB t l = true ↔ IsT t l := by
  unfold isTB
  exact decide_eq_true_iff
theorem bool_of_iff' {b c : Bool} {p : Prop} (h : b = true ↔ p) (k : c = true ↔ p) : b = c := by
  cases b <;> cases c <;> simp_all
theorem small_rows' {l : List (List Int)} (h : hugeB l = false) : l.length ≤ 40 ∧ ∀ i, i < l.length → (atL l i).length ≤ 40 := by
  unfold hugeB at h
  simp only [Bool.or_eq_false_iff, decide_eq_false_iff_not, Bool.not_eq_false'] at h
  obtain ⟨h1, h2⟩ := h
  unfold longB at h2
  refine ⟨by omega, fun i hi => ?_⟩
  have := allB_iff.1 h2 i hi
  simp at this
  omega
/-- Judge and the word, in a truth. -/
theorem judge_law {lo hi low high n : Int} (h : lo ≤ n ∧ n ≤ hi) : (1 ≤ judgeR lo hi low high ∧ judgeR lo hi low high ≤ 3) ∧ (judgeR lo hi low high = 1 → withinB n low high = true) ∧ (judgeR lo hi low high = 2 → withinB n low high = false) := by
  unfold judgeR
  by_cases c1 : low ≤ lo ∧ hi ≤ high
  · rw [if_pos c1]
    exact ⟨by omega, fun _ => withinB_true.2 (by omega), fun q => by omega⟩
  · rw [if_neg c1]
    by_cases c2 : high < lo ∨ hi < low
    · rw [if_pos c2]
      exact ⟨by omega, fun q => by omega, fun _ => withinB_false.2 (by omega)⟩
    · rw [if_neg c2]
      exact ⟨by omega, fun q => by omega, fun q => by omega⟩
theorem CountsEach_any (t : CT) (v : Value) (l : List (List Int)) (vl : Value) (x : CW) (w : World) (hv : TrapAt w v t) (hl : RowsAt w vl l) : Calls Try.prog 15 #[v, vl, x.val] w fun e w' => e = .returned (.bool true) ∧ Bel w w' := by
  have HV := Lib.hid hv
  have HL := Lib.hid hl
  have HRT := Lib.hid (fun wx hx => ready_any t v wx hx)
  have HUL := Lib.hid (fun wx hx => huge_any vl l wx hx)
  have HXV := Lib.hid (show x.val = .agg #[.int .i64 x.time, .int .i64 x.chamber, .int .i64 x.low, .int .i64 x.high] from rfl)
  rw [HXV.out]
  clear hl
  obtain ⟨ov, wv, rfl, ⟨a, c, b, off, rv, rfl, _⟩, ⟨wa, wc, wb, woff, rfl, _⟩⟩ := hv
  by_cases hr : readyB t = true
  rotate_left
  · have hr : readyB t = false := by simpa using hr
    rw [hr] at HRT
    go_enter Try.func15, Try.ntmps15
    go_wp2_with fail
    refine (HRT.out _ (HV.out.bel (by repeat (first | assumption | exact Bel.refl _ | refine Bel.drew ?_ | refine Bel.drewN ?_ _ | refine Bel.alloc ?_ _ | refine Bel.setCell ?_ (by simp <;> omega) _ | refine Bel.trans ?_ (by assumption))))).mono ?_
    rintro e w1 ⟨rfl, hb⟩
    have x0 : w1.cell? ⟨w.heap.size, 0, none⟩ = some (.int .i64 t.C) := hb.cell ((row_facts ((heap_alloc_old _ _ (by simp <;> omega)).trans (new_row rfl))).1 0)
    have x1 : w1.cell? ⟨w.heap.size, 1, none⟩ = some (.int .i64 t.T) := hb.cell ((row_facts ((heap_alloc_old _ _ (by simp <;> omega)).trans (new_row rfl))).1 1)
    have x2 : w1.cell? ⟨w.heap.size, 2, none⟩ = some (.slice a t.op.length c) := hb.cell ((row_facts ((heap_alloc_old _ _ (by simp <;> omega)).trans (new_row rfl))).1 2)
    have x3 : w1.cell? ⟨w.heap.size, 3, none⟩ = some (.slice wa t.ws.length wc) := hb.cell ((row_facts ((heap_alloc_old _ _ (by simp <;> omega)).trans (new_row rfl))).1 3)
    have k0 : w1.cell? ⟨w.heap.size + 1, 0, none⟩ = some (.int .i64 x.time) := hb.cell ((row_facts (new_row (by simp))).1 0)
    have k1 : w1.cell? ⟨w.heap.size + 1, 1, none⟩ = some (.int .i64 x.chamber) := hb.cell ((row_facts (new_row (by simp))).1 1)
    have k2 : w1.cell? ⟨w.heap.size + 1, 2, none⟩ = some (.int .i64 x.low) := hb.cell ((row_facts (new_row (by simp))).1 2)
    have k3 : w1.cell? ⟨w.heap.size + 1, 3, none⟩ = some (.int .i64 x.high) := hb.cell ((row_facts (new_row (by simp))).1 3)
    have hB1 : Bel w w1 := Bel.trans (by repeat (first | assumption | exact Bel.refl _ | refine Bel.drew ?_ | refine Bel.drewN ?_ _ | refine Bel.alloc ?_ _ | refine Bel.setCell ?_ (by simp <;> omega) _ | refine Bel.trans ?_ (by assumption))) hb
    have lx0 := cell_lt x0
    have lk0 := cell_lt k0
    replace HV := Lib.hid (HV.out.bel hB1)
    replace HL := Lib.hid (HL.out.bel hB1)
    clear hb
    go_wp2_with fail
    refine (works_any _).mono ?_
    rintro e wz ⟨rfl, hb⟩
    have HBZ := Lib.hid (hB1.trans (Bel.trans (by repeat (first | assumption | exact Bel.refl _ | refine Bel.drew ?_ | refine Bel.drewN ?_ _ | refine Bel.alloc ?_ _ | refine Bel.setCell ?_ (by simp <;> omega) _ | refine Bel.trans ?_ (by assumption))) hb))
    clear hb hB1
    go_wp2
    go_ret
    exact ⟨rfl, HBZ.out⟩
  rw [hr] at HRT
  have hval := (readyB_iff.1 hr).2
  by_cases hg : hugeB l = true
  · rw [hg] at HUL
    clear hr hg hval
    go_enter Try.func15, Try.ntmps15
    go_wp2_with fail
    refine (HRT.out _ (HV.out.bel (by repeat (first | assumption | exact Bel.refl _ | refine Bel.drew ?_ | refine Bel.drewN ?_ _ | refine Bel.alloc ?_ _ | refine Bel.setCell ?_ (by simp <;> omega) _ | refine Bel.trans ?_ (by assumption))))).mono ?_
    rintro e w1 ⟨rfl, hb⟩
    have x0 : w1.cell? ⟨w.heap.size, 0, none⟩ = some (.int .i64 t.C) := hb.cell ((row_facts ((heap_alloc_old _ _ (by simp <;> omega)).trans (new_row rfl))).1 0)
    have x1 : w1.cell? ⟨w.heap.size, 1, none⟩ = some (.int .i64 t.T) := hb.cell ((row_facts ((heap_alloc_old _ _ (by simp <;> omega)).trans (new_row rfl))).1 1)
    have x2 : w1.cell? ⟨w.heap.size, 2, none⟩ = some (.slice a t.op.length c) := hb.cell ((row_facts ((heap_alloc_old _ _ (by simp <;> omega)).trans (new_row rfl))).1 2)
    have x3 : w1.cell? ⟨w.heap.size, 3, none⟩ = some (.slice wa t.ws.length wc) := hb.cell ((row_facts ((heap_alloc_old _ _ (by simp <;> omega)).trans (new_row rfl))).1 3)
    have k0 : w1.cell? ⟨w.heap.size + 1, 0, none⟩ = some (.int .i64 x.time) := hb.cell ((row_facts (new_row (by simp))).1 0)
    have k1 : w1.cell? ⟨w.heap.size + 1, 1, none⟩ = some (.int .i64 x.chamber) := hb.cell ((row_facts (new_row (by simp))).1 1)
    have k2 : w1.cell? ⟨w.heap.size + 1, 2, none⟩ = some (.int .i64 x.low) := hb.cell ((row_facts (new_row (by simp))).1 2)
    have k3 : w1.cell? ⟨w.heap.size + 1, 3, none⟩ = some (.int .i64 x.high) := hb.cell ((row_facts (new_row (by simp))).1 3)
    have hB1 : Bel w w1 := Bel.trans (by repeat (first | assumption | exact Bel.refl _ | refine Bel.drew ?_ | refine Bel.drewN ?_ _ | refine Bel.alloc ?_ _ | refine Bel.setCell ?_ (by simp <;> omega) _ | refine Bel.trans ?_ (by assumption))) hb
    have lx0 := cell_lt x0
    have lk0 := cell_lt k0
    replace HV := Lib.hid (HV.out.bel hB1)
    replace HL := Lib.hid (HL.out.bel hB1)
    clear hb
    go_wp2_with fail
    refine (HUL.out _ (HL.out.bel (by repeat (first | assumption | exact Bel.refl _ | refine Bel.drew ?_ | refine Bel.drewN ?_ _ | refine Bel.alloc ?_ _ | refine Bel.setCell ?_ (by simp <;> omega) _ | refine Bel.trans ?_ (by assumption))))).mono ?_
    rintro e w2 ⟨rfl, hb⟩
    have hk : Bel w1 w2 := Bel.trans (by repeat (first | assumption | exact Bel.refl _ | refine Bel.drew ?_ | refine Bel.drewN ?_ _ | refine Bel.alloc ?_ _ | refine Bel.setCell ?_ (by simp <;> omega) _ | refine Bel.trans ?_ (by assumption))) hb
    replace x0 := hk.cell x0
    replace x1 := hk.cell x1
    replace x2 := hk.cell x2
    replace x3 := hk.cell x3
    replace k0 := hk.cell k0
    replace k1 := hk.cell k1
    replace k2 := hk.cell k2
    replace k3 := hk.cell k3
    have lx0 := cell_lt x0
    have lk0 := cell_lt k0
    have hB2 : Bel w w2 := hB1.trans hk
    replace HV := Lib.hid (HV.out.bel hk)
    replace HL := Lib.hid (HL.out.bel hk)
    clear hb hk hB1
    go_wp2_with fail
    refine (works_any _).mono ?_
    rintro e wz ⟨rfl, hb⟩
    have HBZ := Lib.hid (hB2.trans (Bel.trans (by repeat (first | assumption | exact Bel.refl _ | refine Bel.drew ?_ | refine Bel.drewN ?_ _ | refine Bel.alloc ?_ _ | refine Bel.setCell ?_ (by simp <;> omega) _ | refine Bel.trans ?_ (by assumption))) hb))
    clear hb hB2
    go_wp2
    go_ret
    exact ⟨rfl, HBZ.out⟩
  have hg : hugeB l = false := by simpa using hg
  rw [hg] at HUL
  obtain ⟨hl1, hl2⟩ := small_rows' hg
  have HIT := Lib.hid (fun wx hx hy => (IsTruth_any t (.agg #[.int .i64 t.C, .int .i64 t.T, .slice a t.op.length c, .slice wa t.ws.length wc]) vl l wx hx hy hval).mono (R' := fun e w' => e = .returned (.bool (isTB t l)) ∧ Bel wx w') fun e w' h => by
    obtain ⟨bq, k1, k2, k3⟩ := h
    rw [bool_of_iff' k2 isTB_iff] at k1
    exact ⟨k1, k3⟩)
  clear hr hg
  by_cases hit : isTB t l = true
  rotate_left
  · have hit : isTB t l = false := by simpa using hit
    rw [hit] at HIT
    clear hit hval hl1 hl2
    go_enter Try.func15, Try.ntmps15
    go_wp2_with fail
    refine (HRT.out _ (HV.out.bel (by repeat (first | assumption | exact Bel.refl _ | refine Bel.drew ?_ | refine Bel.drewN ?_ _ | refine Bel.alloc ?_ _ | refine Bel.setCell ?_ (by simp <;> omega) _ | refine Bel.trans ?_ (by assumption))))).mono ?_
    rintro e w1 ⟨rfl, hb⟩
    have x0 : w1.cell? ⟨w.heap.size, 0, none⟩ = some (.int .i64 t.C) := hb.cell ((row_facts ((heap_alloc_old _ _ (by simp <;> omega)).trans (new_row rfl))).1 0)
    have x1 : w1.cell? ⟨w.heap.size, 1, none⟩ = some (.int .i64 t.T) := hb.cell ((row_facts ((heap_alloc_old _ _ (by simp <;> omega)).trans (new_row rfl))).1 1)
    have x2 : w1.cell? ⟨w.heap.size, 2, none⟩ = some (.slice a t.op.length c) := hb.cell ((row_facts ((heap_alloc_old _ _ (by simp <;> omega)).trans (new_row rfl))).1 2)
    have x3 : w1.cell? ⟨w.heap.size, 3, none⟩ = some (.slice wa t.ws.length wc) := hb.cell ((row_facts ((heap_alloc_old _ _ (by simp <;> omega)).trans (new_row rfl))).1 3)
    have k0 : w1.cell? ⟨w.heap.size + 1, 0, none⟩ = some (.int .i64 x.time) := hb.cell ((row_facts (new_row (by simp))).1 0)
    have k1 : w1.cell? ⟨w.heap.size + 1, 1, none⟩ = some (.int .i64 x.chamber) := hb.cell ((row_facts (new_row (by simp))).1 1)
    have k2 : w1.cell? ⟨w.heap.size + 1, 2, none⟩ = some (.int .i64 x.low) := hb.cell ((row_facts (new_row (by simp))).1 2)
    have k3 : w1.cell? ⟨w.heap.size + 1, 3, none⟩ = some (.int .i64 x.high) := hb.cell ((row_facts (new_row (by simp))).1 3)
    have hB1 : Bel w w1 := Bel.trans (by repeat (first | assumption | exact Bel.refl _ | refine Bel.drew ?_ | refine Bel.drewN ?_ _ | refine Bel.alloc ?_ _ | refine Bel.setCell ?_ (by simp <;> omega) _ | refine Bel.trans ?_ (by assumption))) hb
    have lx0 := cell_lt x0
    have lk0 := cell_lt k0
    replace HV := Lib.hid (HV.out.bel hB1)
    replace HL := Lib.hid (HL.out.bel hB1)
    clear hb
    go_wp2_with fail
    refine (HUL.out _ (HL.out.bel (by repeat (first | assumption | exact Bel.refl _ | refine Bel.drew ?_ | refine Bel.drewN ?_ _ | refine Bel.alloc ?_ _ | refine Bel.setCell ?_ (by simp <;> omega) _ | refine Bel.trans ?_ (by assumption))))).mono ?_
    rintro e w2 ⟨rfl, hb⟩
    have hk : Bel w1 w2 := Bel.trans (by repeat (first | assumption | exact Bel.refl _ | refine Bel.drew ?_ | refine Bel.drewN ?_ _ | refine Bel.alloc ?_ _ | refine Bel.setCell ?_ (by simp <;> omega) _ | refine Bel.trans ?_ (by assumption))) hb
    replace x0 := hk.cell x0
    replace x1 := hk.cell x1
    replace x2 := hk.cell x2
    replace x3 := hk.cell x3
    replace k0 := hk.cell k0
    replace k1 := hk.cell k1
    replace k2 := hk.cell k2
    replace k3 := hk.cell k3
    have lx0 := cell_lt x0
    have lk0 := cell_lt k0
    have hB2 : Bel w w2 := hB1.trans hk
    replace HV := Lib.hid (HV.out.bel hk)
    replace HL := Lib.hid (HL.out.bel hk)
    clear hb hk hB1
    go_wp2_with fail
    refine (HIT.out _ (HV.out.bel (by repeat (first | assumption | exact Bel.refl _ | refine Bel.drew ?_ | refine Bel.drewN ?_ _ | refine Bel.alloc ?_ _ | refine Bel.setCell ?_ (by simp <;> omega) _ | refine Bel.trans ?_ (by assumption)))) (HL.out.bel (by repeat (first | assumption | exact Bel.refl _ | refine Bel.drew ?_ | refine Bel.drewN ?_ _ | refine Bel.alloc ?_ _ | refine Bel.setCell ?_ (by simp <;> omega) _ | refine Bel.trans ?_ (by assumption))))).mono ?_
    rintro e w3 ⟨rfl, hb⟩
    have hk : Bel w2 w3 := Bel.trans (by repeat (first | assumption | exact Bel.refl _ | refine Bel.drew ?_ | refine Bel.drewN ?_ _ | refine Bel.alloc ?_ _ | refine Bel.setCell ?_ (by simp <;> omega) _ | refine Bel.trans ?_ (by assumption))) hb
    replace x0 := hk.cell x0
    replace x1 := hk.cell x1
    replace x2 := hk.cell x2
    replace x3 := hk.cell x3
    replace k0 := hk.cell k0
    replace k1 := hk.cell k1
    replace k2 := hk.cell k2
    replace k3 := hk.cell k3
    have lx0 := cell_lt x0
    have lk0 := cell_lt k0
    have hB3 : Bel w w3 := hB2.trans hk
    replace HV := Lib.hid (HV.out.bel hk)
    replace HL := Lib.hid (HL.out.bel hk)
    clear hb hk hB2
    go_wp2_with fail
    refine (works_any _).mono ?_
    rintro e wz ⟨rfl, hb⟩
    have HBZ := Lib.hid (hB3.trans (Bel.trans (by repeat (first | assumption | exact Bel.refl _ | refine Bel.drew ?_ | refine Bel.drewN ?_ _ | refine Bel.alloc ?_ _ | refine Bel.setCell ?_ (by simp <;> omega) _ | refine Bel.trans ?_ (by assumption))) hb))
    clear hb hB3
    go_wp2
    go_ret
    exact ⟨rfl, HBZ.out⟩
  rw [hit] at HIT
  have hT := isTB_iff.1 hit
  obtain ⟨he, hEF⟩ := each_law hval hT
  obtain ⟨f1, f2, f3, f4, _, _⟩ := fit_of_valid hval
  have HEF := Lib.hid hEF
  have HTT := Lib.hid hT
  have tb : ∀ i : Nat, i < t.T.toNat → isTimeB t.T i = true := fun i h1 => isTimeB_mk f3 f4 (by omega)
  have cb : ∀ i : Nat, i < t.T.toNat → cameB t.T 0 i = true := fun i h1 => cameB_mk (by omega)
  have pb : ∀ i c : Nat, i + 1 < t.T.toNat → c < t.C.toNat → passB t.C t.T i c = true := fun i c h1 h2 => by
    unfold passB isStepB isTimeB
    simp only [Bool.and_eq_true, withinB_true]
    rw [wrap64_in (t.T - 2) (by omega), wrap64_in (t.C - 1) (by omega)]
    omega
  have HF := Lib.hid (fun wx hx => (fishL_any t (.agg #[.int .i64 t.C, .int .i64 t.T, .slice a t.op.length c, .slice wa t.ws.length wc]) wx hx hval).mono (R' := fun e w' => ∃ sv, e = .returned (.tuple #[sv, .bool true]) ∧ SpanRowsAt w' sv t.T.toNat t.C.toNat (fun i c => fishLo t i c) (fun i c => fishHi t i c) ∧ Bel wx w') fun e w' h => by
    rcases h with ⟨_, h⟩ | ⟨h, _⟩
    · exact h
    · exact absurd he h)
  have HCD := Lib.hid (fun wx hx => copied_any vl l wx hx hl1 hl2)
  have HHO := Lib.hid (fun wx hx vm hm => (Holds_any t (.agg #[.int .i64 t.C, .int .i64 t.T, .slice a t.op.length c, .slice wa t.ws.length wc]) vm l wx hx hm).mono (R' := fun e w' => e = .returned (.tuple #[.bool true, .int .i64 0]) ∧ Bel wx w') fun e w' h => by
    obtain ⟨bq, h1, h2, h3⟩ := h
    rw [chk_true hval, h2.2 ⟨hval, hT⟩] at h1
    exact ⟨h1, h3⟩)
  have HW1 := Lib.hid (fun wx hx (i : Nat) (hi : i < t.T.toNat) => (Whole_any t (.agg #[.int .i64 t.C, .int .i64 t.T, .slice a t.op.length c, .slice wa t.ws.length wc]) i wx hx).mono fun e w' h => span_ok (a := wholeLo t i) (b := wholeHi t i) (by rw [tb i hi]; exact he) rfl rfl h)
  have HC1 := Lib.hid (fun wx hx (i : Nat) (hi : i < t.T.toNat) => (Came_any t (.agg #[.int .i64 t.C, .int .i64 t.T, .slice a t.op.length c, .slice wa t.ws.length wc]) 0 i wx hx).mono fun e w' h => span_ok (a := cameLo t 0 i) (b := cameHi t 0 i) (by rw [cb i hi]; exact he) rfl rfl h)
  have HP1 := Lib.hid (fun wx hx (i q : Nat) (hi : i + 1 < t.T.toNat) (hc : q < t.C.toNat) => (Passed_any t (.agg #[.int .i64 t.C, .int .i64 t.T, .slice a t.op.length c, .slice wa t.ws.length wc]) i q wx hx).mono fun e w' h => span_ok (a := passLo t i q) (b := passHi t i q) (by rw [pb i q hi hc]; exact he) rfl rfl h)
  have HIW := Lib.hid (fun wx => IsWord_any t.C t.T x (.slice a t.op.length c) (.slice wa t.ws.length wc) wx)
  have HJG := Lib.hid (fun (hx : isWordB t.C t.T x = true) wx hy => (Judge_any t (.agg #[.int .i64 t.C, .int .i64 t.T, .slice a t.op.length c, .slice wa t.ws.length wc]) x wx hy).mono fun e w' h => int_ok (by rw [hx]; exact he) rfl h)
  rw [HXV.out] at HIW HJG
  have HFT := Lib.hid (fit_of_valid hval)
  have HTL := Lib.hid hT.len
  have HNB := HL
  obtain ⟨an, cn, bn, offn, rn, rfl, han, hnl, hnc⟩ := HNB.out
  clear HNB
  have hixn := idxRows (c := cn) han
  have HNC := Lib.hid hnc
  have HBE := Lib.hid (fun (i : Nat) (hi : i < t.T.toNat) (q : Nat) (hq : q ≤ t.C.toNat) wx (hx : Bel w wx) => (show Calls Try.prog 69 #[rn i, .int .i64 q] wx (fun e w' => e = .returned (.int .i64 (beh l i q)) ∧ wx = w') from
    Behind_any (rn i) (atL l i) q wx (((HNC.out i (by have := HTL.out; omega)).2).bel hx) (by rw [(HTT.out.row i hi).len]; exact hq) (fun y hy => by
      obtain ⟨j, hj, e⟩ := mem_getD (atL l i) y 0 hy
      rw [← e]
      exact (HTT.out.row i hi).num j (by rw [← (HTT.out.row i hi).len]; exact hj)) (by rw [(HTT.out.row i hi).len]; omega)))
  have HBE0 := Lib.hid (fun (i : Nat) (hi : i < t.T.toNat) wx (hx : Bel w wx) => (show Calls Try.prog 69 #[rn i, .int .i64 0] wx (fun e w' => e = .returned (.int .i64 (beh l i 0)) ∧ wx = w') from HBE.out i hi 0 (Nat.zero_le _) wx hx))
  have hll : l.length = t.T.toNat := HTL.out
  have hll0 : 0 < l.length := by omega
  have hixn0 : ∀ wx, (Instr.indexAt 22 (.slice an l.length cn) (.int .i64 0)).run Try.prog wx = .ok (.pointer (some ⟨bn, offn, none⟩)) wx := fun wx => by
    have := hixn wx 0 hll0
    simpa using this
  have HLL := Lib.hid hll
  clear hval hit he hEF hT tb cb pb hnc han hl1 hl2 hll
  go_enter Try.func15, Try.ntmps15
  go_wp2_with fail
  refine (HRT.out _ (HV.out.bel (by repeat (first | assumption | exact Bel.refl _ | refine Bel.drew ?_ | refine Bel.drewN ?_ _ | refine Bel.alloc ?_ _ | refine Bel.setCell ?_ (by simp <;> omega) _ | refine Bel.trans ?_ (by assumption))))).mono ?_
  rintro e w1 ⟨rfl, hb⟩
  have x0 : w1.cell? ⟨w.heap.size, 0, none⟩ = some (.int .i64 t.C) := hb.cell ((row_facts ((heap_alloc_old _ _ (by simp <;> omega)).trans (new_row rfl))).1 0)
  have x1 : w1.cell? ⟨w.heap.size, 1, none⟩ = some (.int .i64 t.T) := hb.cell ((row_facts ((heap_alloc_old _ _ (by simp <;> omega)).trans (new_row rfl))).1 1)
  have x2 : w1.cell? ⟨w.heap.size, 2, none⟩ = some (.slice a t.op.length c) := hb.cell ((row_facts ((heap_alloc_old _ _ (by simp <;> omega)).trans (new_row rfl))).1 2)
  have x3 : w1.cell? ⟨w.heap.size, 3, none⟩ = some (.slice wa t.ws.length wc) := hb.cell ((row_facts ((heap_alloc_old _ _ (by simp <;> omega)).trans (new_row rfl))).1 3)
  have k0 : w1.cell? ⟨w.heap.size + 1, 0, none⟩ = some (.int .i64 x.time) := hb.cell ((row_facts (new_row (by simp))).1 0)
  have k1 : w1.cell? ⟨w.heap.size + 1, 1, none⟩ = some (.int .i64 x.chamber) := hb.cell ((row_facts (new_row (by simp))).1 1)
  have k2 : w1.cell? ⟨w.heap.size + 1, 2, none⟩ = some (.int .i64 x.low) := hb.cell ((row_facts (new_row (by simp))).1 2)
  have k3 : w1.cell? ⟨w.heap.size + 1, 3, none⟩ = some (.int .i64 x.high) := hb.cell ((row_facts (new_row (by simp))).1 3)
  have hB1 : Bel w w1 := Bel.trans (by repeat (first | assumption | exact Bel.refl _ | refine Bel.drew ?_ | refine Bel.drewN ?_ _ | refine Bel.alloc ?_ _ | refine Bel.setCell ?_ (by simp <;> omega) _ | refine Bel.trans ?_ (by assumption))) hb
  have lx0 := cell_lt x0
  have lk0 := cell_lt k0
  replace HV := Lib.hid (HV.out.bel hB1)
  replace HL := Lib.hid (HL.out.bel hB1)
  clear hb
  go_wp2_with fail
  refine (HUL.out _ (HL.out.bel (by repeat (first | assumption | exact Bel.refl _ | refine Bel.drew ?_ | refine Bel.drewN ?_ _ | refine Bel.alloc ?_ _ | refine Bel.setCell ?_ (by simp <;> omega) _ | refine Bel.trans ?_ (by assumption))))).mono ?_
  rintro e w2 ⟨rfl, hb⟩
  have hk : Bel w1 w2 := Bel.trans (by repeat (first | assumption | exact Bel.refl _ | refine Bel.drew ?_ | refine Bel.drewN ?_ _ | refine Bel.alloc ?_ _ | refine Bel.setCell ?_ (by simp <;> omega) _ | refine Bel.trans ?_ (by assumption))) hb
  replace x0 := hk.cell x0
  replace x1 := hk.cell x1
  replace x2 := hk.cell x2
  replace x3 := hk.cell x3
  replace k0 := hk.cell k0
  replace k1 := hk.cell k1
  replace k2 := hk.cell k2
  replace k3 := hk.cell k3
  have lx0 := cell_lt x0
  have lk0 := cell_lt k0
  have hB2 : Bel w w2 := hB1.trans hk
  replace HV := Lib.hid (HV.out.bel hk)
  replace HL := Lib.hid (HL.out.bel hk)
  clear hb hk hB1
  go_wp2_with fail
  refine (HIT.out _ (HV.out.bel (by repeat (first | assumption | exact Bel.refl _ | refine Bel.drew ?_ | refine Bel.drewN ?_ _ | refine Bel.alloc ?_ _ | refine Bel.setCell ?_ (by simp <;> omega) _ | refine Bel.trans ?_ (by assumption)))) (HL.out.bel (by repeat (first | assumption | exact Bel.refl _ | refine Bel.drew ?_ | refine Bel.drewN ?_ _ | refine Bel.alloc ?_ _ | refine Bel.setCell ?_ (by simp <;> omega) _ | refine Bel.trans ?_ (by assumption))))).mono ?_
  rintro e w3 ⟨rfl, hb⟩
  have hk : Bel w2 w3 := Bel.trans (by repeat (first | assumption | exact Bel.refl _ | refine Bel.drew ?_ | refine Bel.drewN ?_ _ | refine Bel.alloc ?_ _ | refine Bel.setCell ?_ (by simp <;> omega) _ | refine Bel.trans ?_ (by assumption))) hb
  replace x0 := hk.cell x0
  replace x1 := hk.cell x1
  replace x2 := hk.cell x2
  replace x3 := hk.cell x3
  replace k0 := hk.cell k0
  replace k1 := hk.cell k1
  replace k2 := hk.cell k2
  replace k3 := hk.cell k3
  have lx0 := cell_lt x0
  have lk0 := cell_lt k0
  have hB3 : Bel w w3 := hB2.trans hk
  replace HV := Lib.hid (HV.out.bel hk)
  replace HL := Lib.hid (HL.out.bel hk)
  clear hb hk hB2
  go_wp2_with fail
  refine (HF.out _ (HV.out.bel (by repeat (first | assumption | exact Bel.refl _ | refine Bel.drew ?_ | refine Bel.drewN ?_ _ | refine Bel.alloc ?_ _ | refine Bel.setCell ?_ (by simp <;> omega) _ | refine Bel.trans ?_ (by assumption))))).mono ?_
  rintro e w4 ⟨sv, rfl, hS, hb⟩
  have hk : Bel w3 w4 := Bel.trans (by repeat (first | assumption | exact Bel.refl _ | refine Bel.drew ?_ | refine Bel.drewN ?_ _ | refine Bel.alloc ?_ _ | refine Bel.setCell ?_ (by simp <;> omega) _ | refine Bel.trans ?_ (by assumption))) hb
  replace x0 := hk.cell x0
  replace x1 := hk.cell x1
  replace x2 := hk.cell x2
  replace x3 := hk.cell x3
  replace k0 := hk.cell k0
  replace k1 := hk.cell k1
  replace k2 := hk.cell k2
  replace k3 := hk.cell k3
  have lx0 := cell_lt x0
  have lk0 := cell_lt k0
  have hB4 : Bel w w4 := hB3.trans hk
  replace HV := Lib.hid (HV.out.bel hk)
  replace HL := Lib.hid (HL.out.bel hk)
  clear hb hk hB3
  obtain ⟨b1, cap1, rv1, rfl, hr1⟩ := hS
  have HR1 := Lib.hid hr1
  have HB4 := Lib.hid hB4
  have HX := Lib.hid (And.intro x0 (And.intro x1 (And.intro x2 x3)))
  have HK := Lib.hid (And.intro k0 (And.intro k1 (And.intro k2 k3)))
  have hix1 := idxSpanRows (c := cap1) (n := t.T.toNat) (b := b1) (off := 0) (a := some ⟨b1, 0, none⟩) (fun _ => rfl)
  clear hr1 hB4 HUL HIT HF HRT
  go_wp2
  clear k0 k1 k2 k3 lk0
  refine wp_region_mixB (Plan.seq [0, 1, 1002, 1003, 4, 5, 6, 7, 8] .nil) (by kernel_rfl) (by kernel_rfl) (fun hcur => ?_)
  simp only [Plan.seq, Plan.fill, List.getD_cons_zero, List.getD_cons_succ, Nat.reduceLT, ↓reduceIte, Nat.reduceSub]
  apply mix_pure _ rfl
  · intro w' hw'
    have hcr := hw'.cells
    go_simp
    rfl
  intro K hK
  go_simp
  refine hK _ ?_
  clear hK K
  apply mix_pure _ rfl
  · intro w' hw'
    have hcr := hw'.cells
    go_simp
    rfl
  intro K hK
  go_simp
  refine hK _ ?_
  clear hK K
  refine mix_act rfl (fun K hK => ?_)
  go_simp
  refine (HCD.out _ (HL.out.bel hcur)).mono ?_
  rintro e w5 ⟨vm, rfl, hb, hM⟩
  have HM := Lib.hid hM
  simp only []
  refine hK _ _ (hcur.trans hb) (fun hcur => ?_)
  clear hK K hb hM
  refine mix_act rfl (fun K hK => ?_)
  go_simp
  refine (HHO.out _ (HV.out.bel hcur) _ HM.out).mono ?_
  rintro e w6 ⟨rfl, hb⟩
  simp only []
  refine hK _ _ (hcur.trans hb) (fun hcur => ?_)
  clear hK K hb
  apply mix_pure _ rfl
  · intro w' hw'
    have hcr := hw'.cells
    go_simp
    rfl
  intro K hK
  go_simp
  refine hK _ ?_
  clear hK K
  apply mix_pure _ rfl
  · intro w' hw'
    have hcr := hw'.cells
    go_simp
    rfl
  intro K hK
  go_simp
  refine hK _ ?_
  clear hK K
  apply mix_pure _ rfl
  · intro w' hw'
    have hcr := hw'.cells
    go_simp
    rfl
  intro K hK
  go_simp
  refine hK _ ?_
  clear hK K
  apply mix_pure _ rfl
  · intro w' hw'
    have hcr := hw'.cells
    go_simp
    rfl
  intro K hK
  go_simp
  refine hK _ ?_
  clear hK K
  apply mix_pure _ rfl
  · intro w' hw'
    have hcr := hw'.cells
    go_simp
    rfl
  intro K hK
  go_simp
  refine hK _ ?_
  clear hK K
  refine mix_nil ?_
  have HB6 := Lib.hid hcur
  clear hcur x0 x1 x2 x3 lx0
  go_wp2
  go_loopw [11] (fun i wr => ∃ n : Nat, n ≤ t.T.toNat ∧ i = .int .i64 n ∧ Bel w4 wr) (fun i _ => t.T.toNat - (intOf i).toNat)
  case atStart => exact ⟨0, by omega, rfl, HB6.out⟩
  case round =>
    obtain ⟨n, hn, rfl, hB⟩ := hrel
    have HB := Lib.hid hB
    clear hB
    have x1 := HB.out.cell HX.out.2.1
    by_cases hlt : n < t.T.toNat
    · have hni : (n : Int) < t.T := by omega
      have hnl2 : n < l.length := by have := HLL.out; omega
      have hnli : (n : Int) < (l.length : Int) := by omega
      have x0 := HB.out.cell HX.out.1
      have x2 := HB.out.cell HX.out.2.2.1
      have x3 := HB.out.cell HX.out.2.2.2
      go_wp2_with fail
      refine (HW1.out _ (HV.out.bel HB.out) n hlt).mono ?_
      rintro e w7 ⟨rfl, hb⟩
      have HB7 := Lib.hid (HB.out.trans hb)
      clear hb x0 x1 x2 x3
      have x0 := HB7.out.cell HX.out.1
      have x1 := HB7.out.cell HX.out.2.1
      have x2 := HB7.out.cell HX.out.2.2.1
      have x3 := HB7.out.cell HX.out.2.2.2
      have lx0 := cell_lt x0
      go_wp2_with fail
      refine (HC1.out _ (HV.out.bel (HB7.out.alloc _)) n hlt).mono ?_
      rintro e w8 ⟨rfl, hb⟩
      have s0 : w8.cell? ⟨w7.heap.size, 0, none⟩ = some (.int .i64 (wholeLo t n)) := hb.cell ((row_facts (new_row rfl)).1 0)
      have s1 : w8.cell? ⟨w7.heap.size, 1, none⟩ = some (.int .i64 (wholeHi t n)) := hb.cell ((row_facts (new_row rfl)).1 1)
      have ls := cell_lt s0
      have HB8 := Lib.hid ((HB7.out.alloc _).trans hb)
      clear hb x0 x1 x2 x3 lx0
      have r1 := (HB4.out.trans HB8.out).cell (HNC.out n hnl2).1
      have lr1 := cell_lt r1
      go_wp2_with fail
      refine (HBE0.out n hlt _ ((HB4.out.trans HB8.out).alloc _)).mono ?_
      rintro e w9 ⟨rfl, rfl⟩
      generalize hW9 : w8.alloc _ = W9
      have hk : Bel w8 W9 := by rw [← hW9]; exact (Bel.refl w8).alloc _
      have u0 : W9.cell? ⟨w8.heap.size, 0, none⟩ = some (.int .i64 (cameLo t 0 n)) := by rw [← hW9]; exact (row_facts (new_row rfl)).1 0
      have u1 : W9.cell? ⟨w8.heap.size, 1, none⟩ = some (.int .i64 (cameHi t 0 n)) := by rw [← hW9]; exact (row_facts (new_row rfl)).1 1
      replace s0 := hk.cell s0
      replace s1 := hk.cell s1
      replace ls := cell_lt s0
      have lu := cell_lt u0
      have HB9 := Lib.hid (HB8.out.trans hk)
      have HBF9 := Lib.hid (HB4.out.trans (HB8.out.trans hk))
      have r0 : W9.cell? ⟨bn, offn, none⟩ = some (rn 0) := by have := HBF9.out.cell (HNC.out 0 hll0).1; simpa using this
      have lr0 := cell_lt r0
      have HFW := Lib.hid (HEF.out.whole n hlt)
      have HFC := Lib.hid (HEF.out.came n hlt)
      obtain ⟨g1, g2⟩ := HEF.out.bound n 0 hlt (by omega)
      obtain ⟨g3, g4⟩ := HEF.out.bound 0 0 (by omega) (by omega)
      have HZ0 := Lib.hid (HBE0.out 0 (by omega))
      clear hW9 hk r1 lr1
      generalize wholeLo t n = p1 at *
      generalize wholeHi t n = p2 at *
      generalize cameLo t 0 n = p3 at *
      generalize cameHi t 0 n = p4 at *
      generalize beh l n 0 = bn0 at *
      generalize beh l 0 0 = b00 at *
      go_wp2
      refine wp_region_mixB (Plan.seq [0, 1, 2, 3, 4, 5, 6, 7, 8, 1009, 10, 11, 12, 13, 14, 15, 16, 17, 1018, 19, 1020, 21, 22] .nil) (by kernel_rfl) (by kernel_rfl) (fun hcur => ?_)
      simp only [Plan.seq, Plan.fill, List.getD_cons_zero, List.getD_cons_succ, Nat.reduceLT, ↓reduceIte, Nat.reduceSub]
      apply mix_pure _ rfl
      · intro w' hw'
        have hcr := hw'.cells
        go_simp
        rfl
      intro K hK
      go_simp
      refine hK _ ?_
      clear hK K
      apply mix_pure _ rfl
      · intro w' hw'
        have hcr := hw'.cells
        go_simp
        rfl
      intro K hK
      go_simp
      refine hK _ ?_
      clear hK K
      apply mix_pure _ rfl
      · intro w' hw'
        have hcr := hw'.cells
        go_simp
        rfl
      intro K hK
      go_simp
      refine hK _ ?_
      clear hK K
      apply mix_pureG _ (by go_simp)
      · intro w' hw'
        have hcr := hw'.cells
        go_simp
        rfl
      intro K hK
      go_simp
      refine hK _ ?_
      clear hK K
      apply mix_pureG _ (by go_simp)
      · intro w' hw'
        have hcr := hw'.cells
        go_simp
        rfl
      intro K hK
      go_simp
      refine hK _ ?_
      clear hK K
      apply mix_pure _ rfl
      · intro w' hw'
        have hcr := hw'.cells
        go_simp
        rfl
      intro K hK
      go_simp
      refine hK _ ?_
      clear hK K
      apply mix_pure _ rfl
      · intro w' hw'
        have hcr := hw'.cells
        go_simp
        rfl
      intro K hK
      go_simp
      refine hK _ ?_
      clear hK K
      apply mix_pureG _ (by go_simp)
      · intro w' hw'
        have hcr := hw'.cells
        go_simp
        rfl
      intro K hK
      go_simp
      refine hK _ ?_
      clear hK K
      apply mix_pureG _ (by go_simp)
      · intro w' hw'
        have hcr := hw'.cells
        go_simp
        rfl
      intro K hK
      go_simp
      refine hK _ ?_
      clear hK K
      refine mix_actG (by go_simp) (fun K hK => ?_)
      go_simp
      refine (has_true _ _ _ _ HFW.out).mono ?_
      rintro e wx ⟨rfl, hb⟩
      simp only []
      refine hK _ _ (hcur.trans hb) (fun hcur => ?_)
      clear hK K hb
      apply mix_pureG _ (by go_simp)
      · intro w' hw'
        have hcr := hw'.cells
        go_simp
        rfl
      intro K hK
      go_simp
      refine hK _ ?_
      clear hK K
      apply mix_pure _ rfl
      · intro w' hw'
        have hcr := hw'.cells
        go_simp
        rfl
      intro K hK
      go_simp
      refine hK _ ?_
      clear hK K
      apply mix_pure _ rfl
      · intro w' hw'
        have hcr := hw'.cells
        go_simp
        rfl
      intro K hK
      go_simp
      refine hK _ ?_
      clear hK K
      apply mix_pureG _ (by go_simp)
      · intro w' hw'
        have hcr := hw'.cells
        go_simp
        rfl
      intro K hK
      go_simp
      refine hK _ ?_
      clear hK K
      apply mix_pureG _ (by go_simp)
      · intro w' hw'
        have hcr := hw'.cells
        go_simp
        rfl
      intro K hK
      go_simp
      refine hK _ ?_
      clear hK K
      apply mix_pureG _ (by go_simp)
      · intro w' hw'
        have hcr := hw'.cells
        go_simp
        rfl
      intro K hK
      go_simp
      refine hK _ ?_
      clear hK K
      apply mix_pureG _ (by go_simp)
      · intro w' hw'
        have hcr := hw'.cells
        go_simp
        rfl
      intro K hK
      go_simp
      refine hK _ ?_
      clear hK K
      apply mix_pureG _ (by go_simp)
      · intro w' hw'
        have hcr := hw'.cells
        go_simp
        rfl
      intro K hK
      go_simp
      refine hK _ ?_
      clear hK K
      refine mix_actG (by go_simp) (fun K hK => ?_)
      go_simp
      refine (HZ0.out _ (HBF9.out.trans hcur)).mono ?_
      rintro e wy ⟨rfl, rfl⟩
      simp only []
      refine hK _ _ hcur (fun hcur => ?_)
      clear hK K
      apply mix_pureG _ (by go_simp)
      · intro w' hw'
        have hcr := hw'.cells
        go_simp
        first | (rw [IntWalk.i64_in]; all_goals first | omega | rfl) | rfl
      intro K hK
      go_simp
      refine hK _ ?_
      clear hK K
      refine mix_actG (by go_simp) (fun K hK => ?_)
      go_simp
      refine (has_true _ _ _ _ HFC.out).mono ?_
      rintro e wz ⟨rfl, hb⟩
      simp only []
      refine hK _ _ (hcur.trans hb) (fun hcur => ?_)
      clear hK K hb
      apply mix_pureG _ (by go_simp)
      · intro w' hw'
        have hcr := hw'.cells
        go_simp
        rfl
      intro K hK
      go_simp
      refine hK _ ?_
      clear hK K
      apply mix_pure _ rfl
      · intro w' hw'
        have hcr := hw'.cells
        go_simp
        rfl
      intro K hK
      go_simp
      refine hK _ ?_
      clear hK K
      refine mix_nil ?_
      have HBA := Lib.hid (HB9.out.trans hcur)
      clear hcur s0 s1 u0 u1 ls lu r0 lr0 g1 g2 g3 g4 HFW HFC HZ0
      go_wp2
      go_loopw [17] (fun c wj => ∃ k : Nat, k ≤ t.C.toNat ∧ c = .int .i64 k ∧ Bel w4 wj) (fun c _ => t.C.toNat - (intOf c).toNat)
      case atStart => exact ⟨0, by omega, rfl, HBA.out⟩
      case round =>
        obtain ⟨k, hk, rfl, hB⟩ := hrel
        have HB := Lib.hid hB
        clear hB
        have x0 := HB.out.cell HX.out.1
        by_cases hltk : k < t.C.toNat
        · have hki : (k : Int) < t.C := by omega
          have hkC : (k : Int) < ((t.C.toNat : Nat) : Int) := by omega
          have hnT : (n : Int) < ((t.T.toNat : Nat) : Int) := by omega
          obtain ⟨e1, br1, cr1, er1, hc1⟩ := HR1.out n hlt
          rw [er1] at e1
          obtain ⟨c1, c2⟩ := hc1 k hltk
          simp only [] at c1 c2
          replace e1 := HB.out.cell e1
          replace c1 := HB.out.cell c1
          replace c2 := HB.out.cell c2
          have hixa := idxSpan (c := cr1) (n := t.C.toNat) (b := br1) (off := 0) (a := some ⟨br1, 0, none⟩) (fun _ => rfl)
          have HBF := Lib.hid (HB4.out.trans HB.out)
          obtain ⟨r1, ra, rc, rb, roff, er, hra, hrl, hcell⟩ := HNC.out n hnl2
          rw [er] at r1
          have hrn := (HTT.out.row n hlt).len
          have hkr : k < (atL l n).length := by omega
          have r2 := HBF.out.cell (hcell k hkr)
          replace r1 := HBF.out.cell r1
          have hixr := idxInts (c := rc) hra
          have hkri : (k : Int) < ((atL l n).length : Int) := by omega
          have l1 := cell_lt e1
          have l2 := cell_lt c1
          have l3 := cell_lt r1
          have l4 := cell_lt r2
          have HFF := Lib.hid (HEF.out.fish n k hlt hltk)
          generalize (atL l n).length = nr at *
          generalize at0 (atL l n) k = val at *
          generalize fishLo t n k = q1 at *
          generalize fishHi t n k = q2 at *
          have HER := Lib.hid er
          clear er1 hc1 er hra hrl hcell hrn
          go_wp2
          refine wp_region_mixB (Plan.seq [0, 1, 2, 3, 4, 5, 6, 7, 8, 9, 10, 11, 12, 13, 1014, 15] .nil) (by kernel_rfl) (by kernel_rfl) (fun hcur => ?_)
          simp only [Plan.seq, Plan.fill, List.getD_cons_zero, List.getD_cons_succ, Nat.reduceLT, ↓reduceIte, Nat.reduceSub]
          apply mix_pure _ rfl
          · intro w' hw'
            have hcr := hw'.cells
            go_simp
            rfl
          intro K hK
          go_simp
          refine hK _ ?_
          clear hK K
          apply mix_pure _ rfl
          · intro w' hw'
            have hcr := hw'.cells
            go_simp
            rfl
          intro K hK
          go_simp
          refine hK _ ?_
          clear hK K
          apply mix_pure _ rfl
          · intro w' hw'
            have hcr := hw'.cells
            go_simp
            rfl
          intro K hK
          go_simp
          refine hK _ ?_
          clear hK K
          apply mix_pure _ rfl
          · intro w' hw'
            have hcr := hw'.cells
            go_simp
            rfl
          intro K hK
          go_simp
          refine hK _ ?_
          clear hK K
          apply mix_pure _ rfl
          · intro w' hw'
            have hcr := hw'.cells
            go_simp
            rfl
          intro K hK
          go_simp
          refine hK _ ?_
          clear hK K
          apply mix_pure _ rfl
          · intro w' hw'
            have hcr := hw'.cells
            go_simp
            rfl
          intro K hK
          go_simp
          refine hK _ ?_
          clear hK K
          apply mix_pure _ rfl
          · intro w' hw'
            have hcr := hw'.cells
            go_simp
            rfl
          intro K hK
          go_simp
          refine hK _ ?_
          clear hK K
          apply mix_pure _ rfl
          · intro w' hw'
            have hcr := hw'.cells
            go_simp
            rfl
          intro K hK
          go_simp
          refine hK _ ?_
          clear hK K
          apply mix_pure _ rfl
          · intro w' hw'
            have hcr := hw'.cells
            go_simp
            rfl
          intro K hK
          go_simp
          refine hK _ ?_
          clear hK K
          apply mix_pure _ rfl
          · intro w' hw'
            have hcr := hw'.cells
            go_simp
            rfl
          intro K hK
          go_simp
          refine hK _ ?_
          clear hK K
          apply mix_pure _ rfl
          · intro w' hw'
            have hcr := hw'.cells
            go_simp
            rfl
          intro K hK
          go_simp
          refine hK _ ?_
          clear hK K
          apply mix_pure _ rfl
          · intro w' hw'
            have hcr := hw'.cells
            go_simp
            rfl
          intro K hK
          go_simp
          refine hK _ ?_
          clear hK K
          apply mix_pure _ rfl
          · intro w' hw'
            have hcr := hw'.cells
            go_simp
            rfl
          intro K hK
          go_simp
          refine hK _ ?_
          clear hK K
          apply mix_pure _ rfl
          · intro w' hw'
            have hcr := hw'.cells
            go_simp
            rfl
          intro K hK
          go_simp
          refine hK _ ?_
          clear hK K
          refine mix_act rfl (fun K hK => ?_)
          go_simp
          refine (has_true _ _ _ _ HFF.out).mono ?_
          rintro e wx ⟨rfl, hb⟩
          simp only []
          refine hK _ _ (hcur.trans hb) (fun hcur => ?_)
          clear hK K hb
          apply mix_pure _ rfl
          · intro w' hw'
            have hcr := hw'.cells
            go_simp
            rfl
          intro K hK
          go_simp
          refine hK _ ?_
          clear hK K
          refine mix_nil ?_
          have HBB := Lib.hid (HB.out.trans hcur)
          clear hcur e1 c1 c2 r1 r2 l1 l2 l3 l4 x0 hixa hixr hkr hkri
          have x1 := HBB.out.cell HX.out.2.1
          have hwn : IntKind.i64.wrap ((n : Int) + 1) = (n : Int) + 1 := IntWalk.i64_in _ (by omega)
          by_cases hlast : (n : Int) + 1 = t.T
          · have hlb : ((n : Int) + 1 == t.T) = true := by simpa using hlast
            clear hlast
            go_wp2
            go_roundw
            case rel => exact ⟨k + 1, by omega, by go_num, HBB.out⟩
            case measure => simp [intOf]; omega
          · have hlb : ((n : Int) + 1 == t.T) = false := by simpa using hlast
            have hn1 : n + 1 < t.T.toNat := by omega
            have x0 := HBB.out.cell HX.out.1
            have x2 := HBB.out.cell HX.out.2.2.1
            have x3 := HBB.out.cell HX.out.2.2.2
            go_wp2_with fail
            refine (HP1.out _ (HV.out.bel HBB.out) n k hn1 hltk).mono ?_
            rintro e w7 ⟨rfl, hb⟩
            have HBC := Lib.hid (HBB.out.trans hb)
            clear hb x0 x1 x2 x3
            go_wp2
            generalize hW8 : w7.alloc _ = W8
            have hk8 : Bel w7 W8 := by rw [← hW8]; exact (Bel.refl w7).alloc _
            have s0 : W8.cell? ⟨w7.heap.size, 0, none⟩ = some (.int .i64 (passLo t n k)) := by rw [← hW8]; exact (row_facts (new_row rfl)).1 0
            have s1 : W8.cell? ⟨w7.heap.size, 1, none⟩ = some (.int .i64 (passHi t n k)) := by rw [← hW8]; exact (row_facts (new_row rfl)).1 1
            have ls := cell_lt s0
            have HBD := Lib.hid (HBC.out.trans hk8)
            have HBG := Lib.hid (HB4.out.trans (HBC.out.trans hk8))
            have r1 := HBG.out.cell (HNC.out n hnl2).1
            have r2 := HBG.out.cell (HNC.out (n + 1) (by have := HLL.out; omega)).1
            have lr1 := cell_lt r1
            have lr2 := cell_lt r2
            have hixn1 : ∀ wx, (Instr.indexAt 22 (.slice an l.length cn) (.int .i64 ((n : Int) + 1))).run Try.prog wx = .ok (.pointer (some ⟨bn, offn + (n + 1), none⟩)) wx := fun wx => by
              have := hixn wx (n + 1) (by have := HLL.out; omega)
              simpa using this
            have HFP := Lib.hid (HEF.out.pass n k hn1 hltk)
            obtain ⟨g1, g2⟩ := HEF.out.bound n k hlt (by omega)
            obtain ⟨g3, g4⟩ := HEF.out.bound (n + 1) k hn1 (by omega)
            have HZ1 := Lib.hid (HBE.out n hlt k (by omega))
            have HZ2 := Lib.hid (HBE.out (n + 1) hn1 k (by omega))
            generalize passLo t n k = p1 at *
            generalize passHi t n k = p2 at *
            generalize beh l (n + 1) k = b2 at *
            generalize beh l n k = b1' at *
            clear hW8 hk8 hlast hlb
            refine wp_region_mixB (Plan.seq [0, 1, 2, 3, 4, 5, 6, 7, 8, 9, 11, 12, 13, 14, 15, 1010, 1016, 17, 1018, 19, 20] .nil) (by kernel_rfl) (by kernel_rfl) (fun hcur => ?_)
            simp only [Plan.seq, Plan.fill, List.getD_cons_zero, List.getD_cons_succ, Nat.reduceLT, ↓reduceIte, Nat.reduceSub]
            apply mix_pure _ rfl
            · intro w' hw'
              have hcr := hw'.cells
              go_simp
              rfl
            intro K hK
            go_simp
            refine hK _ ?_
            clear hK K
            apply mix_pure _ rfl
            · intro w' hw'
              have hcr := hw'.cells
              go_simp
              rfl
            intro K hK
            go_simp
            refine hK _ ?_
            clear hK K
            apply mix_pure _ rfl
            · intro w' hw'
              have hcr := hw'.cells
              go_simp
              rfl
            intro K hK
            go_simp
            refine hK _ ?_
            clear hK K
            apply mix_pureG _ (by go_simp)
            · intro w' hw'
              have hcr := hw'.cells
              go_simp
              rfl
            intro K hK
            go_simp
            refine hK _ ?_
            clear hK K
            apply mix_pureG _ (by go_simp)
            · intro w' hw'
              have hcr := hw'.cells
              go_simp
              rfl
            intro K hK
            go_simp
            refine hK _ ?_
            clear hK K
            apply mix_pureG _ (by go_simp)
            · intro w' hw'
              have hcr := hw'.cells
              go_simp
              rfl
            intro K hK
            go_simp
            refine hK _ ?_
            clear hK K
            apply mix_pureG _ (by go_simp)
            · intro w' hw'
              have hcr := hw'.cells
              go_simp
              first | (rw [IntWalk.i64_in]; all_goals first | omega | rfl) | rfl
            intro K hK
            go_simp
            refine hK _ ?_
            clear hK K
            apply mix_pureG _ (by go_simp)
            · intro w' hw'
              have hcr := hw'.cells
              go_simp
              rfl
            intro K hK
            go_simp
            refine hK _ ?_
            clear hK K
            apply mix_pureG _ (by go_simp)
            · intro w' hw'
              have hcr := hw'.cells
              go_simp
              rfl
            intro K hK
            go_simp
            refine hK _ ?_
            clear hK K
            apply mix_pureG _ (by go_simp)
            · intro w' hw'
              have hcr := hw'.cells
              go_simp
              rfl
            intro K hK
            go_simp
            refine hK _ ?_
            clear hK K
            apply mix_pureG _ (by go_simp)
            · intro w' hw'
              have hcr := hw'.cells
              go_simp
              rfl
            intro K hK
            go_simp
            refine hK _ ?_
            clear hK K
            apply mix_pureG _ (by go_simp)
            · intro w' hw'
              have hcr := hw'.cells
              go_simp
              rfl
            intro K hK
            go_simp
            refine hK _ ?_
            clear hK K
            apply mix_pureG _ (by go_simp)
            · intro w' hw'
              have hcr := hw'.cells
              go_simp
              rfl
            intro K hK
            go_simp
            refine hK _ ?_
            clear hK K
            apply mix_pureG _ (by go_simp)
            · intro w' hw'
              have hcr := hw'.cells
              go_simp
              rfl
            intro K hK
            go_simp
            refine hK _ ?_
            clear hK K
            apply mix_pureG _ (by go_simp)
            · intro w' hw'
              have hcr := hw'.cells
              go_simp
              rfl
            intro K hK
            go_simp
            refine hK _ ?_
            clear hK K
            refine mix_actG (by go_simp) (fun K hK => ?_)
            go_simp
            refine (HZ2.out _ (HBG.out.trans hcur)).mono ?_
            rintro e wy ⟨rfl, rfl⟩
            simp only []
            refine hK _ _ hcur (fun hcur => ?_)
            clear hK K
            refine mix_actG (by go_simp) (fun K hK => ?_)
            go_simp
            refine (HZ1.out _ (HBG.out.trans hcur)).mono ?_
            rintro e wy ⟨rfl, rfl⟩
            simp only []
            refine hK _ _ hcur (fun hcur => ?_)
            clear hK K
            apply mix_pureG _ (by go_simp)
            · intro w' hw'
              have hcr := hw'.cells
              go_simp
              first | (rw [IntWalk.i64_in]; all_goals first | omega | rfl) | rfl
            intro K hK
            go_simp
            refine hK _ ?_
            clear hK K
            refine mix_actG (by go_simp) (fun K hK => ?_)
            go_simp
            refine (has_true _ _ _ _ HFP.out).mono ?_
            rintro e wz ⟨rfl, hb⟩
            simp only []
            refine hK _ _ (hcur.trans hb) (fun hcur => ?_)
            clear hK K hb
            apply mix_pureG _ (by go_simp)
            · intro w' hw'
              have hcr := hw'.cells
              go_simp
              rfl
            intro K hK
            go_simp
            refine hK _ ?_
            clear hK K
            apply mix_pure _ rfl
            · intro w' hw'
              have hcr := hw'.cells
              go_simp
              rfl
            intro K hK
            go_simp
            refine hK _ ?_
            clear hK K
            refine mix_nil ?_
            have HBE2 := Lib.hid (HBD.out.trans hcur)
            clear hcur s0 s1 ls r1 r2 lr1 lr2 hixn1 g1 g2 g3 g4
            go_wp2
            go_roundw
            case rel => exact ⟨k + 1, by omega, by go_num, HBE2.out⟩
            case measure => simp [intOf]; omega
        · go_wp2
          go_roundw
          case rel => exact ⟨n + 1, by omega, by go_num, HB.out⟩
          case measure => simp [intOf]; omega
    · have x0 := HB.out.cell HX.out.1
      have x2 := HB.out.cell HX.out.2.2.1
      have x3 := HB.out.cell HX.out.2.2.2
      have k0 := HB.out.cell HK.out.1
      have k1 := HB.out.cell HK.out.2.1
      have k2 := HB.out.cell HK.out.2.2.1
      have k3 := HB.out.cell HK.out.2.2.2
      cases hwx : isWordB t.C t.T x
      all_goals rw [hwx] at HIW
      · clear hwx
        go_wp2_with fail
        refine (HIW.out _).mono ?_
        rintro e w7 ⟨rfl, hb⟩
        have HB7 := Lib.hid (HB4.out.trans (HB.out.trans hb))
        clear hb x0 x1 x2 x3 k0 k1 k2 k3
        go_wp2_with fail
        refine (works_any _).mono ?_
        rintro e wz ⟨rfl, hb⟩
        have HBZ := Lib.hid (HB7.out.trans (Bel.trans (by repeat (first | assumption | exact Bel.refl _ | refine Bel.drew ?_ | refine Bel.drewN ?_ _ | refine Bel.alloc ?_ _ | refine Bel.setCell ?_ (by simp <;> omega) _ | refine Bel.trans ?_ (by assumption))) hb))
        clear hb
        go_wp2
        go_ret
        exact ⟨rfl, HBZ.out⟩
      · obtain ⟨⟨b1', b2'⟩, ⟨b3', b4'⟩, _⟩ := isWordB_bounds f1 f2 f3 f4 hwx
        have HJ := Lib.hid (HJG.out hwx)
        obtain ⟨ti, hti⟩ : ∃ ti : Nat, x.time = ti := ⟨x.time.toNat, by omega⟩
        obtain ⟨ci, hci⟩ : ∃ ci : Nat, x.chamber = ci := ⟨x.chamber.toNat, by omega⟩
        have hfx := HEF.out.fish ti ci (by omega) (by omega)
        obtain ⟨j1, j2, j3⟩ := judge_law (low := x.low) (high := x.high) hfx
        rw [← hti, ← hci] at j1 j2 j3
        generalize judgeR (fishLo t x.time x.chamber) (fishHi t x.time x.chamber) x.low x.high = jr at *
        have htl : ti < l.length := by have := HLL.out; omega
        obtain ⟨r1, ra, rc, rb, roff, er, hra, hrl, hcell⟩ := HNC.out ti htl
        rw [er] at r1
        have hcr' : ci < (atL l ti).length := by rw [(HTT.out.row ti (by omega)).len]; omega
        have r2 := hcell ci hcr'
        have hixr := idxInts (c := rc) hra
        have htli : (ti : Int) < (l.length : Int) := by omega
        have hcri : (ci : Int) < ((atL l ti).length : Int) := by omega
        have HWI := Lib.hid (fun wx => (Within_any (at0 (atL l ti) ci) x.low x.high wx).mono (R' := fun e w' => e = .returned (.bool (withinB (at0 (atL l ti) ci) x.low x.high)) ∧ w' = wx) fun e w' h => ⟨h.1, h.2.symm⟩)
        have HWK := Lib.hid (fun wx => (Within_any jr 1 3 wx).mono (R' := fun e w' => e = .returned (.bool true) ∧ wx = w') fun e w' h => ⟨by rw [h.1, withinB_true.2 j1], h.2⟩)
        generalize withinB (at0 (atL l ti) ci) x.low x.high = sob at *
        generalize at0 (atL l ti) ci = val at *
        generalize (atL l ti).length = nr at *
        have HTI := Lib.hid hti
        have HCI := Lib.hid hci
        clear hwx er hra hrl hcell hfx hti hci
        go_wp2_with fail
        refine (HIW.out _).mono ?_
        rintro e w7 ⟨rfl, hb⟩
        have HB7 := Lib.hid (HB.out.trans hb)
        clear hb x0 x1 x2 x3 k0 k1 k2 k3
        have x0 := HB7.out.cell HX.out.1
        have x1 := HB7.out.cell HX.out.2.1
        have x2 := HB7.out.cell HX.out.2.2.1
        have x3 := HB7.out.cell HX.out.2.2.2
        have k0 := HB7.out.cell HK.out.1
        have k1 := HB7.out.cell HK.out.2.1
        have k2 := HB7.out.cell HK.out.2.2.1
        have k3 := HB7.out.cell HK.out.2.2.2
        go_wp2_with fail
        refine (HJ.out _ (HV.out.bel HB7.out)).mono ?_
        rintro e w8 ⟨rfl, hb⟩
        have HB8 := Lib.hid (HB7.out.trans hb)
        have HBF8 := Lib.hid (HB4.out.trans (HB7.out.trans hb))
        clear hb x0 x1 x2 x3 k0 k1 k2 k3
        have k0 := HB8.out.cell HK.out.1
        have k1 := HB8.out.cell HK.out.2.1
        have k2 := HB8.out.cell HK.out.2.2.1
        have k3 := HB8.out.cell HK.out.2.2.2
        rw [HTI.out] at k0
        rw [HCI.out] at k1
        replace r1 := HBF8.out.cell r1
        replace r2 := HBF8.out.cell r2
        have hjj : (jr = 1 ∧ sob = true) ∨ (jr = 2 ∧ sob = false) ∨ (jr = 3) := by
          have : jr = 1 ∨ jr = 2 ∨ jr = 3 := by omega
          rcases this with q | q | q
          · exact .inl ⟨q, j2 q⟩
          · exact .inr (.inl ⟨q, j3 q⟩)
          · exact .inr (.inr q)
        clear j1 j2 j3
        go_wp2
        go_quiet (first
          | (go_at_call 47; refine Calls.quiet_of_same (HWI.out _)))
        have HB9 := Lib.hid (HBF8.out.drewN nq)
        rcases hjj with ⟨rfl, rfl⟩ | ⟨rfl, rfl⟩ | rfl
        all_goals try cases sob
        all_goals
          go_wp2_with (first
            | (go_at_call 47; refine (HWK.out _).mono ?_; rintro e wq ⟨rfl, rfl⟩)
            | fail)
          refine (works_any _).mono ?_
          rintro e wz ⟨rfl, hb⟩
          have HBZ := Lib.hid (HB9.out.trans hb)
          clear hb
          go_wp2
          go_ret
          exact ⟨rfl, HBZ.out⟩
end Go.Proofs.Ytoiajjdhgffdaaa
