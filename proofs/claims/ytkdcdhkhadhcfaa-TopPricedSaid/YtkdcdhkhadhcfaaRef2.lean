/-
  The tests of numbers, of both packages.
-/
import Derived.Test.YtkdcdhkhadhcfaaRef1
namespace Go.Proofs.Ytkdcdhkhadhcfaa
open Go Go.RowKit
def isTimeB (T n : Int) : Bool := withinB n 0 (wrap64 (T - 1))
def isStepB (T n : Int) : Bool := withinB n 0 (wrap64 (T - 2))
def isPlaceB (C T n c : Int) : Bool := isTimeB T n && isTimeB C c
def isWordB (C T : Int) (x : CW) : Bool := isPlaceB C T x.time x.chamber && (withinB x.high 0 40 && withinB x.low 0 x.high)
set_option maxHeartbeats 400000
set_option maxRecDepth 100000
theorem IsTime_any (C T n : Int) (ov wv : Value) (w : World) :
    Calls Try.prog 58 #[.agg #[.int .i64 C, .int .i64 T, ov, wv], .int .i64 n] w fun e w' => e = .returned (.bool (isTimeB T n)) ∧ Bel w w' := by
  go_enter Try.func58, Try.ntmps58
  go_wp2_with (first | (go_at_call 20; refine (Within_any _ _ _ _).mono ?_; rintro e w' ⟨rfl, rfl⟩))
  go_ret
  exact ⟨rfl, (by repeat (first | assumption | exact Bel.refl _ | refine Bel.drew ?_ | refine Bel.drewN ?_ _ | refine Bel.alloc ?_ _ | refine Bel.setCell ?_ (by simp <;> omega) _ | refine Bel.trans ?_ (by assumption)))⟩
theorem IsChamber_any (C T n : Int) (ov wv : Value) (w : World) :
    Calls Try.prog 59 #[.agg #[.int .i64 C, .int .i64 T, ov, wv], .int .i64 n] w fun e w' => e = .returned (.bool (isTimeB C n)) ∧ Bel w w' := by
  go_enter Try.func59, Try.ntmps59
  go_wp2_with (first | (go_at_call 20; refine (Within_any _ _ _ _).mono ?_; rintro e w' ⟨rfl, rfl⟩))
  go_ret
  exact ⟨rfl, (by repeat (first | assumption | exact Bel.refl _ | refine Bel.drew ?_ | refine Bel.drewN ?_ _ | refine Bel.alloc ?_ _ | refine Bel.setCell ?_ (by simp <;> omega) _ | refine Bel.trans ?_ (by assumption)))⟩
theorem IsWord_any (C T : Int) (x : CW) (ov wv : Value) (w : World) :
    Calls Try.prog 26 #[.agg #[.int .i64 C, .int .i64 T, ov, wv], x.val] w fun e w' => e = .returned (.bool (isWordB C T x)) ∧ Bel w w' := by
  have H := Lib.hid (show isWordB C T x = (isTimeB T x.time && isTimeB C x.chamber && (withinB x.high 0 40 && withinB x.low 0 x.high)) from rfl)
  unfold CW.val
  cases h1 : isTimeB T x.time <;> cases h2 : isTimeB C x.chamber <;> cases h3 : withinB x.high 0 40
  all_goals
    rw [h1, h2, h3] at H
    go_enter Try.func26, Try.ntmps26
    go_wp2_with (first | (go_at_call 58; refine (IsTime_any _ _ _ _ _ _).mono ?_; rintro e w' ⟨rfl, hb⟩; have hcr := hb.cells; have hfr := hb.frozens; have hz := hb.szle; (try simp only [World.size_alloc] at hz); have z0 : w.heap.size < w'.heap.size := (by omega); have z1 : w.heap.size + 1 < w'.heap.size := (by omega)) | (go_at_call 59; refine (IsChamber_any _ _ _ _ _ _).mono ?_; rintro e w' ⟨rfl, hb⟩; have hcr := hb.cells; have hfr := hb.frozens; have hz := hb.szle; (try simp only [World.size_alloc, World.size_drew, World.size_setCell, World.heap_drewN] at hz); have z0 : w.heap.size < w'.heap.size := (by omega); have z1 : w.heap.size + 1 < w'.heap.size := (by omega)) | (go_at_call 20; refine (Within_any _ _ _ _).mono ?_; rintro e w' ⟨rfl, rfl⟩))
    go_ret
    exact ⟨rb H.out, (by repeat (first | assumption | exact Bel.refl _ | refine Bel.drew ?_ | refine Bel.drewN ?_ _ | refine Bel.alloc ?_ _ | refine Bel.setCell ?_ (by simp <;> omega) _ | refine Bel.trans ?_ (by assumption)))⟩
theorem within_any (n l h : Int) (w : World) :
    Calls Try.prog 103 #[.int .i64 n, .int .i64 l, .int .i64 h] w fun e w' => e = .returned (.bool (withinB n l h)) ∧ w = w' := by
  by_cases h1 : l ≤ n <;> by_cases h2 : n ≤ h
  all_goals
    have e : withinB n l h = (decide (l ≤ n) && decide (n ≤ h)) := rfl
    have H := Lib.hid e; clear e
    go_enter Try.func103, Try.ntmps103
    go_wp2
    go_ret
    refine ⟨?_, rfl⟩
    rw [H.out]
    simp [h1, h2]
theorem isPlace_any (C T n c : Int) (ov wv : Value) (w : World) :
    Calls Try.prog 77 #[.agg #[.int .i64 C, .int .i64 T, ov, wv], .int .i64 n, .int .i64 c] w fun e w' => e = .returned (.bool (isPlaceB C T n c)) ∧ Bel w w' := by
  have H := Lib.hid (show isPlaceB C T n c = (withinB n 0 (wrap64 (T - 1)) && withinB c 0 (wrap64 (C - 1))) from rfl)
  cases h1 : withinB n 0 (wrap64 (T - 1))
  all_goals
    rw [h1] at H
    go_enter Try.func77, Try.ntmps77
    go_wp2_with (first | (go_at_call 103; refine (within_any _ _ _ _).mono ?_; rintro e w' ⟨rfl, rfl⟩))
    go_ret
    exact ⟨rb H.out, (by repeat (first | assumption | exact Bel.refl _ | refine Bel.drew ?_ | refine Bel.drewN ?_ _ | refine Bel.alloc ?_ _ | refine Bel.setCell ?_ (by simp <;> omega) _ | refine Bel.trans ?_ (by assumption)))⟩
def isWordC (C T : Int) (x : CW) : Bool := isPlaceB C T x.time x.chamber && withinB x.low 0 x.high && decide (x.high ≤ 40)
theorem isWordC_eq (C T : Int) (x : CW) : isWordC C T x = isWordB C T x := by
  unfold isWordC isWordB withinB
  cases isPlaceB C T x.time x.chamber <;> simp
  by_cases h1 : 0 ≤ x.low <;> by_cases h2 : x.low ≤ x.high <;> by_cases h3 : x.high ≤ 40 <;> simp [h1, h2, h3]
  omega
theorem isWord_any (C T : Int) (x : CW) (ov wv : Value) (w : World) :
    Calls Try.prog 130 #[.agg #[.int .i64 C, .int .i64 T, ov, wv], x.val] w fun e w' => e = .returned (.bool (isWordB C T x)) ∧ Bel w w' := by
  rw [← isWordC_eq]
  have H := Lib.hid (show isWordC C T x = (isPlaceB C T x.time x.chamber && withinB x.low 0 x.high && decide (x.high ≤ 40)) from rfl)
  unfold CW.val
  cases h1 : isPlaceB C T x.time x.chamber <;> cases h2 : withinB x.low 0 x.high
  all_goals
    rw [h1, h2] at H
    go_enter Try.func130, Try.ntmps130
    go_wp2_with (first | (go_at_call 77; refine (isPlace_any _ _ _ _ _ _ _).mono ?_; rintro e w' ⟨rfl, hb⟩; have hcr := hb.cells; have hfr := hb.frozens; have hz := hb.szle; (try simp only [World.size_alloc] at hz); have z0 : w.heap.size < w'.heap.size := (by omega); have z1 : w.heap.size + 1 < w'.heap.size := (by omega)) | (go_at_call 103; refine (within_any _ _ _ _).mono ?_; rintro e w' ⟨rfl, rfl⟩))
    go_ret
    exact ⟨rb H.out, (by repeat (first | assumption | exact Bel.refl _ | refine Bel.drew ?_ | refine Bel.drewN ?_ _ | refine Bel.alloc ?_ _ | refine Bel.setCell ?_ (by simp <;> omega) _ | refine Bel.trans ?_ (by assumption)))⟩
end Go.Proofs.Ytkdcdhkhadhcfaa
