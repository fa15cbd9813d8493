/-
  The tests of numbers, of both packages.
-/
import Derived.Test.YtkdcdhkhadhcfaaDoorRef1
namespace Go.Proofs.YtkdcdhkhadhcfaaDoor
open Go Go.RowKit
def isTimeB (T n : Int) : Bool := withinB n 0 (wrap64 (T - 1))
def isStepB (T n : Int) : Bool := withinB n 0 (wrap64 (T - 2))
def isPlaceB (C T n c : Int) : Bool := isTimeB T n && isTimeB C c
def isWordB (C T : Int) (x : CW) : Bool := isPlaceB C T x.time x.chamber && (withinB x.high 0 40 && withinB x.low 0 x.high)
set_option maxHeartbeats 400000
set_option maxRecDepth 100000
theorem IsTime_any (C T n : Int) (ov wv : Value) (w : World) :
    Calls Tryd.prog 10 #[.agg #[.int .i64 C, .int .i64 T, ov, wv], .int .i64 n] w fun e w' => e = .returned (.bool (isTimeB T n)) ∧ Bel w w' := by
  go_enter Tryd.func10, Tryd.ntmps10
  go_wp2_with (first | (go_at_call 24; refine (Within_any _ _ _ _).mono ?_; rintro e w' ⟨rfl, rfl⟩))
  go_ret
  exact ⟨rfl, (by repeat (first | assumption | exact Bel.refl _ | refine Bel.drew ?_ | refine Bel.drewN ?_ _ | refine Bel.alloc ?_ _ | refine Bel.setCell ?_ (by simp <;> omega) _ | refine Bel.trans ?_ (by assumption)))⟩
theorem IsChamber_any (C T n : Int) (ov wv : Value) (w : World) :
    Calls Tryd.prog 37 #[.agg #[.int .i64 C, .int .i64 T, ov, wv], .int .i64 n] w fun e w' => e = .returned (.bool (isTimeB C n)) ∧ Bel w w' := by
  go_enter Tryd.func37, Tryd.ntmps37
  go_wp2_with (first | (go_at_call 24; refine (Within_any _ _ _ _).mono ?_; rintro e w' ⟨rfl, rfl⟩))
  go_ret
  exact ⟨rfl, (by repeat (first | assumption | exact Bel.refl _ | refine Bel.drew ?_ | refine Bel.drewN ?_ _ | refine Bel.alloc ?_ _ | refine Bel.setCell ?_ (by simp <;> omega) _ | refine Bel.trans ?_ (by assumption)))⟩
theorem IsWord_any (C T : Int) (x : CW) (ov wv : Value) (w : World) :
    Calls Tryd.prog 16 #[.agg #[.int .i64 C, .int .i64 T, ov, wv], x.val] w fun e w' => e = .returned (.bool (isWordB C T x)) ∧ Bel w w' := by
  have H := Lib.hid (show isWordB C T x = (isTimeB T x.time && isTimeB C x.chamber && (withinB x.high 0 40 && withinB x.low 0 x.high)) from rfl)
  unfold CW.val
  cases h1 : isTimeB T x.time <;> cases h2 : isTimeB C x.chamber <;> cases h3 : withinB x.high 0 40
  all_goals
    rw [h1, h2, h3] at H
    go_enter Tryd.func16, Tryd.ntmps16
    go_wp2_with (first | (go_at_call 10; refine (IsTime_any _ _ _ _ _ _).mono ?_; rintro e w' ⟨rfl, hb⟩; have hcr := hb.cells; have hfr := hb.frozens; have hz := hb.szle; (try simp only [World.size_alloc] at hz); have z0 : w.heap.size < w'.heap.size := (by omega); have z1 : w.heap.size + 1 < w'.heap.size := (by omega)) | (go_at_call 37; refine (IsChamber_any _ _ _ _ _ _).mono ?_; rintro e w' ⟨rfl, hb⟩; have hcr := hb.cells; have hfr := hb.frozens; have hz := hb.szle; (try simp only [World.size_alloc, World.size_drew, World.size_setCell, World.heap_drewN] at hz); have z0 : w.heap.size < w'.heap.size := (by omega); have z1 : w.heap.size + 1 < w'.heap.size := (by omega)) | (go_at_call 24; refine (Within_any _ _ _ _).mono ?_; rintro e w' ⟨rfl, rfl⟩))
    go_ret
    exact ⟨rb H.out, (by repeat (first | assumption | exact Bel.refl _ | refine Bel.drew ?_ | refine Bel.drewN ?_ _ | refine Bel.alloc ?_ _ | refine Bel.setCell ?_ (by simp <;> omega) _ | refine Bel.trans ?_ (by assumption)))⟩
theorem within_any (n l h : Int) (w : World) :
    Calls Tryd.prog 70 #[.int .i64 n, .int .i64 l, .int .i64 h] w fun e w' => e = .returned (.bool (withinB n l h)) ∧ w = w' := by
  by_cases h1 : l ≤ n <;> by_cases h2 : n ≤ h
  all_goals
    have e : withinB n l h = (decide (l ≤ n) && decide (n ≤ h)) := rfl
    have H := Lib.hid e; clear e
    go_enter Tryd.func70, Tryd.ntmps70
    go_wp2
    go_ret
    refine ⟨?_, rfl⟩
    rw [H.out]
    simp [h1, h2]
theorem isPlace_any (C T n c : Int) (ov wv : Value) (w : World) :
    Calls Tryd.prog 52 #[.agg #[.int .i64 C, .int .i64 T, ov, wv], .int .i64 n, .int .i64 c] w fun e w' => e = .returned (.bool (isPlaceB C T n c)) ∧ Bel w w' := by
  have H := Lib.hid (show isPlaceB C T n c = (withinB n 0 (wrap64 (T - 1)) && withinB c 0 (wrap64 (C - 1))) from rfl)
  cases h1 : withinB n 0 (wrap64 (T - 1))
  all_goals
    rw [h1] at H
    go_enter Tryd.func52, Tryd.ntmps52
    go_wp2_with (first | (go_at_call 70; refine (within_any _ _ _ _).mono ?_; rintro e w' ⟨rfl, rfl⟩))
    go_ret
    exact ⟨rb H.out, (by repeat (first | assumption | exact Bel.refl _ | refine Bel.drew ?_ | refine Bel.drewN ?_ _ | refine Bel.alloc ?_ _ | refine Bel.setCell ?_ (by simp <;> omega) _ | refine Bel.trans ?_ (by assumption)))⟩
def isWordC (C T : Int) (x : CW) : Bool := isPlaceB C T x.time x.chamber && withinB x.low 0 x.high && decide (x.high ≤ 40)
theorem isWordC_eq (C T : Int) (x : CW) : isWordC C T x = isWordB C T x := by
  unfold isWordC isWordB withinB
  cases isPlaceB C T x.time x.chamber <;> simp
  by_cases h1 : 0 ≤ x.low <;> by_cases h2 : x.low ≤ x.high <;> by_cases h3 : x.high ≤ 40 <;> simp [h1, h2, h3]
  omega
theorem isWord_any (C T : Int) (x : CW) (ov wv : Value) (w : World) :
    Calls Tryd.prog 114 #[.agg #[.int .i64 C, .int .i64 T, ov, wv], x.val] w fun e w' => e = .returned (.bool (isWordB C T x)) ∧ Bel w w' := by
  rw [← isWordC_eq]
  have H := Lib.hid (show isWordC C T x = (isPlaceB C T x.time x.chamber && withinB x.low 0 x.high && decide (x.high ≤ 40)) from rfl)
  unfold CW.val
  cases h1 : isPlaceB C T x.time x.chamber <;> cases h2 : withinB x.low 0 x.high
  all_goals
    rw [h1, h2] at H
    go_enter Tryd.func114, Tryd.ntmps114
    go_wp2_with (first | (go_at_call 52; refine (isPlace_any _ _ _ _ _ _ _).mono ?_; rintro e w' ⟨rfl, hb⟩; have hcr := hb.cells; have hfr := hb.frozens; have hz := hb.szle; (try simp only [World.size_alloc] at hz); have z0 : w.heap.size < w'.heap.size := (by omega); have z1 : w.heap.size + 1 < w'.heap.size := (by omega)) | (go_at_call 70; refine (within_any _ _ _ _).mono ?_; rintro e w' ⟨rfl, rfl⟩))
    go_ret
    exact ⟨rb H.out, (by repeat (first | assumption | exact Bel.refl _ | refine Bel.drew ?_ | refine Bel.drewN ?_ _ | refine Bel.alloc ?_ _ | refine Bel.setCell ?_ (by simp <;> omega) _ | refine Bel.trans ?_ (by assumption)))⟩
end Go.Proofs.YtkdcdhkhadhcfaaDoor
